/-
  Convergents: continuants from either end, and their bounds.
  Conditions: none.
-/
import Derived.Test.YtnjepaboecijcaaExp
set_option linter.unusedVariables false
set_option linter.unusedSimpArgs false
namespace Go.Ev
open Go.RowKit

def contL : List Int → Int × Int
  | [] => (1, 0)
  | a :: l => (a * (contL l).1 + (contL l).2, (contL l).1)

/-- The state of the recurrence from the front: now and before. -/
def fwdS (l : List Int) (s : (Int × Int) × (Int × Int)) : (Int × Int) × (Int × Int) := l.foldl (fun s a => ((s.2.1 + a * s.1.1, s.2.2 + a * s.1.2), s.1)) s
def fwd (l : List Int) : (Int × Int) × (Int × Int) := fwdS l ((1, 0), (0, 1))

theorem fwdS_now : ∀ (l : List Int) (x y u v : Int), (fwdS l ((x, y), (u, v))).1 = ((contL l).1 * x + (contL l).2 * u, (contL l).1 * y + (contL l).2 * v)
  | [], x, y, u, v => by simp [fwdS, contL]
  | a :: l, x, y, u, v => by
    have := fwdS_now l (u + a * x) (v + a * y) x y
    unfold fwdS at this ⊢
    rw [List.foldl_cons, this]
    simp only [contL]
    refine Prod.ext ?_ ?_ <;> (simp only; grind)
theorem fwd_now (l : List Int) : (fwd l).1 = contL l := by
  unfold fwd
  rw [fwdS_now]
  simp
theorem fwd_snoc (l : List Int) (a : Int) : fwd (l ++ [a]) = (((fwd l).2.1 + a * (fwd l).1.1, (fwd l).2.2 + a * (fwd l).1.2), (fwd l).1) := by
  unfold fwd fwdS
  rw [List.foldl_append]
  rfl

structure CB (p q N D : Int) : Prop where
  n0 : 0 ≤ N
  d0 : 0 ≤ D
  dq : D ≤ q
  np : N ≤ p ∨ N ≤ 1
  dn : p ≥ q → D ≤ N
  df : p > q → N - D ≤ p - q

theorem cb : ∀ (k : Nat) (p q : Int) (m : Nat), q.toNat ≤ k → 0 ≤ p → 0 ≤ q → CB p q (contL ((expL p q).take m)).1 (contL ((expL p q).take m)).2 := by
  intro k
  induction k with
  | zero =>
    intro p q m hk hp hq
    rw [expL_zero (by omega)]
    simp only [List.take_nil, contL]
    exact ⟨by omega, by omega, by omega, .inr (by omega), fun _ => by omega, fun _ => by omega⟩
  | succ k ih =>
    intro p q m hk hp hq
    by_cases h0 : 0 < q
    · cases m with
      | zero =>
        simp only [List.take_zero, contL]
        exact ⟨by omega, by omega, by omega, .inr (by omega), fun _ => by omega, fun _ => by omega⟩
      | succ m =>
        rw [expL_step h0, List.take_succ_cons]
        have h1 := Int.emod_lt_of_pos p h0
        have h2 := Int.emod_nonneg p (show q ≠ 0 by omega)
        have h3 := Int.emod_add_mul_ediv p q
        have h4 : 0 ≤ p / q := Int.ediv_nonneg hp hq
        have h := ih q (p % q) m (by omega) hq h2
        simp only [contL]
        generalize (contL ((expL q (p % q)).take m)).1 = N at *
        generalize (contL ((expL q (p % q)).take m)).2 = D at *
        generalize p % q = r at *
        generalize p / q = a at *
        have hn := h.n0; have hd := h.d0; have hdq := h.dq; have hnp := h.np; have hdn := h.dn (by omega); have hdf := h.df (by omega)
        have hnq : N ≤ q := by omega
        have e1 : a * N ≤ a * q := Int.mul_le_mul_of_nonneg_left hnq h4
        have e2 : 0 ≤ a * N := Int.mul_nonneg h4 hn
        have e3 : a * q = q * a := Int.mul_comm a q
        refine ⟨by omega, by omega, by omega, .inl (by omega), fun hpq => ?_, fun hpq => ?_⟩
        · have ha : 1 ≤ a := by
            rcases (by omega : a < 1 ∨ 1 ≤ a) with h5 | h5
            · have : a = 0 := by omega
              subst this
              omega
            · exact h5
          have : 1 * N ≤ a * N := Int.mul_le_mul_of_nonneg_right ha hn
          omega
        · have ha : 1 ≤ a := by
            rcases (by omega : a < 1 ∨ 1 ≤ a) with h5 | h5
            · have : a = 0 := by omega
              subst this
              omega
            · exact h5
          have e4 : (a - 1) * N ≤ (a - 1) * q := Int.mul_le_mul_of_nonneg_left hnq (by omega)
          rw [Int.sub_mul, Int.sub_mul] at e4
          omega
    · rw [expL_zero h0]
      simp only [List.take_nil, contL]
      exact ⟨by omega, by omega, by omega, .inr (by omega), fun _ => by omega, fun _ => by omega⟩

def fitsP (c : Int × Int) : Prop := -1000000 ≤ c.1 ∧ c.1 ≤ 1000000 ∧ -1000000 ≤ c.2 ∧ c.2 ≤ 1000000

theorem fits0 {p q : Int} (hp : 0 ≤ p) (hp2 : p ≤ 1000000) (hq : 0 ≤ q) (hq2 : q ≤ 1000000) (m : Nat) : fitsP (contL ((expL p q).take m)) := by
  have h := cb q.toNat p q m (Nat.le_refl _) hp hq
  have h1 := h.n0; have h2 := h.d0; have h3 := h.dq; have h4 := h.np
  exact ⟨by omega, by omega, by omega, by omega⟩
theorem fits1 : ∀ (j : Nat) {p q : Int} (hp : 0 ≤ p) (hp2 : p ≤ 1000000) (hq : 0 ≤ q) (hq2 : q ≤ 1000000) (m : Nat), fitsP (contL (((expL p q).take m).drop j))
  | 0, p, q, hp, hp2, hq, hq2, m => by simpa using fits0 hp hp2 hq hq2 m
  | j + 1, p, q, hp, hp2, hq, hq2, m => by
    by_cases h0 : 0 < q
    · cases m with
      | zero => simp [contL, fitsP]
      | succ m =>
        have h1 := Int.emod_lt_of_pos p h0
        have h2 := Int.emod_nonneg p (show q ≠ 0 by omega)
        rw [expL_step h0, List.take_succ_cons, List.drop_succ_cons]
        exact fits1 j hq hq2 h2 (by omega) m
    · rw [expL_zero h0]
      simp [contL, fitsP]
/-- All continuants that the spec's fold reckons are coordinates. -/
theorem fits {p q : Int} (h : ExpOk p q) (j m : Nat) : fitsP (contL (((expL p q).take m).drop j)) := by
  have hlo := h.lo; have hhi := h.hi; have hb0 := h.b0; have hb1 := h.b1
  by_cases h0 : 0 < q
  · cases m with
    | zero => simp [contL, fitsP]
    | succ m =>
      have h1 := Int.emod_lt_of_pos p h0
      have h2 := Int.emod_nonneg p (show q ≠ 0 by omega)
      rw [expL_step h0, List.take_succ_cons]
      cases j with
      | succ j => rw [List.drop_succ_cons]; exact fits1 j (by omega) hb1 h2 (by omega) m
      | zero =>
        rw [List.drop_zero]
        have h3 := Int.emod_add_mul_ediv p q
        have h := cb (p % q).toNat q (p % q) m (Nat.le_refl _) (by omega) h2
        simp only [contL]
        generalize (contL ((expL q (p % q)).take m)).1 = N at *
        generalize (contL ((expL q (p % q)).take m)).2 = D at *
        generalize p % q = r at *
        generalize p / q = a at *
        have hn := h.n0; have hd := h.d0; have hdq := h.dq; have hnp := h.np; have hdn := h.dn (by omega); have hdf := h.df (by omega)
        have hnq : N ≤ q := by omega
        have e3 : a * q = q * a := Int.mul_comm a q
        unfold fitsP
        simp only
        rcases (by omega : a < 0 ∨ 0 ≤ a) with ha | ha
        · have e1 : (-1 - a) * N ≤ (-1 - a) * q := Int.mul_le_mul_of_nonneg_left hnq (by omega)
          have e2 : 0 ≤ (-a) * N := Int.mul_nonneg (by omega) hn
          rw [Int.sub_mul, Int.sub_mul] at e1
          rw [Int.neg_mul] at e2
          refine ⟨by omega, by omega, by omega, by omega⟩
        · have e1 : a * N ≤ a * q := Int.mul_le_mul_of_nonneg_left hnq ha
          have e2 : 0 ≤ a * N := Int.mul_nonneg ha hn
          refine ⟨by omega, by omega, by omega, by omega⟩
  · rw [expL_zero h0]
    simp [contL, fitsP]

/-- All convergents. -/
def convs (l : List Int) : List (Int × Int) := (List.range l.length).map fun k => contL (l.take (k + 1))
theorem convs_len (l : List Int) : (convs l).length = l.length := by simp [convs]

theorem plusF_eq {a k c : Int} (h1 : -9223372036854775808 ≤ a + k * c) (h2 : a + k * c ≤ 9223372036854775807) : plusF a k c = a + k * c := by
  unfold plusF
  rw [w64_add_r, w64_in h1 h2]

theorem take_succ_getD {α : Type} {l : List α} {i : Nat} {d : α} (h : i < l.length) : l.take (i + 1) = l.take i ++ [l.getD i d] := by
  rw [List.take_add_one]
  simp [List.getD, h]

/-- The state of the loop that makes the convergents of the list l. -/
structure ConvI (l : List Int) (i x y u v : Int) (L sp : List Value) (n c : Nat) : Prop where
  lo : 0 ≤ i
  hi : i ≤ (l.length : Int)
  num : n = i.toNat
  row : Row L sp n c 2
  lst : L = pl ((convs l).take i.toNat)
  st : fwd (l.take i.toNat) = ((x, y), (u, v))
theorem ConvI.start (l : List Int) : ConvI l 0 1 0 0 1 [] [] 0 0 := ⟨by omega, by omega, rfl, Row.empty, rfl, rfl⟩
theorem ConvI.now {l : List Int} {i x y u v : Int} {L sp : List Value} {n c : Nat} (h : ConvI l i x y u v L sp n c) (hi : i < (l.length : Int)) (hf : ∀ m, fitsP (contL (l.take m))) :
    plusF u (l.getD i.toNat 0) x = (contL (l.take (i.toNat + 1))).1 ∧ plusF v (l.getD i.toNat 0) y = (contL (l.take (i.toNat + 1))).2 ∧ fwd (l.take (i.toNat + 1)) = (contL (l.take (i.toNat + 1)), (x, y)) := by
  have h1 := h.lo
  have hl : i.toNat < l.length := by omega
  have e1 : fwd (l.take (i.toNat + 1)) = ((u + l.getD i.toNat 0 * x, v + l.getD i.toNat 0 * y), (x, y)) := by
    rw [take_succ_getD (d := 0) hl, fwd_snoc, h.st]
  have e2 := fwd_now (l.take (i.toNat + 1))
  rw [e1] at e2
  simp only at e2
  obtain ⟨f1, f2, f3, f4⟩ := hf (i.toNat + 1)
  rw [← e2] at f1 f2 f3 f4 ⊢
  simp only at f1 f2 f3 f4 ⊢
  exact ⟨plusF_eq (by omega) (by omega), plusF_eq (by omega) (by omega), e1⟩
theorem ConvI.next {l : List Int} {i x y u v : Int} {L sp sp' : List Value} {n c c' : Nat} (h : ConvI l i x y u v L sp n c) (hi : i < (l.length : Int)) (hl : l.length ≤ 1000001) (hf : ∀ m, fitsP (contL (l.take m)))
    (hr : Row (L ++ [iv (plusF u (l.getD i.toNat 0) x), iv (plusF v (l.getD i.toNat 0) y)]) sp' (n + 1) c' 2) :
    ConvI l (w64 (i + 1)) (plusF u (l.getD i.toNat 0) x) (plusF v (l.getD i.toNat 0) y) x y (L ++ [iv (plusF u (l.getD i.toNat 0) x), iv (plusF v (l.getD i.toNat 0) y)]) sp' (n + 1) c' := by
  have h1 := h.lo
  obtain ⟨e1, e2, e3⟩ := h.now hi hf
  rw [w64_in (by omega) (by omega)]
  have e4 : (i + 1).toNat = i.toNat + 1 := by omega
  refine ⟨by omega, by omega, by rw [h.num, e4], hr, ?_, ?_⟩
  · rw [e1, e2, e4, h.lst, take_succ_getD (d := (0, 0)) (by rw [convs_len]; omega), pl_snoc]
    have : (convs l).getD i.toNat (0, 0) = contL (l.take (i.toNat + 1)) := by
      have : i.toNat < l.length := by omega
      simp [convs, List.getD, this]
    rw [this]
  · rw [e1, e2, e4, e3]
theorem ConvI.fin {l : List Int} {i x y u v : Int} {L sp : List Value} {n c : Nat} (h : ConvI l i x y u v L sp n c) (hi : ¬ i < (l.length : Int)) : L = pl (convs l) ∧ Row (pl (convs l)) sp n c 2 ∧ n = l.length := by
  have h1 := h.lo; have h2 := h.hi; have h3 := h.num
  have e : i.toNat = l.length := by omega
  have h4 := h.lst
  rw [e, List.take_of_length_le (by rw [convs_len]; omega)] at h4
  exact ⟨h4, h4 ▸ h.row, by omega⟩

/-- The state of the spec's fold of the first m numbers: those from i + 1 on are reckoned. -/
structure FoldI (xs : List Int) (m : Nat) (p q i : Int) : Prop where
  lo : -1 ≤ i
  hi : i < (m : Int) - 1 + 1
  st : contL ((xs.take m).drop (i + 1).toNat) = (p, q)
theorem FoldI.start {xs : List Int} {m : Nat} (h : 0 < m) (hm : m ≤ xs.length) (hx : xs.length ≤ 1000001) : FoldI xs m (xs.getD (w64 ((m : Int) - 1)).toNat 0) 1 (w64 ((m : Int) - 2)) := by
  rw [w64_in (by omega) (by omega), w64_in (by omega) (by omega)]
  refine ⟨by omega, by omega, ?_⟩
  have e1 : ((m : Int) - 2 + 1).toNat = m - 1 := by omega
  have e2 : ((m : Int) - 1).toNat = m - 1 := by omega
  rw [e1, e2]
  have hl : m - 1 < (xs.take m).length := by rw [List.length_take]; omega
  rw [List.drop_eq_getElem_cons hl, List.drop_of_length_le (by rw [List.length_take]; omega)]
  have : m - 1 < xs.length := by omega
  simp [contL, List.getD, this]
theorem FoldI.val {xs : List Int} {m : Nat} {p q i : Int} (h : FoldI xs m p q i) (hi : i ≥ 0) (hm : m ≤ xs.length) : contL ((xs.take m).drop i.toNat) = (xs.getD i.toNat 0 * p + q, p) := by
  have h1 := h.hi
  have hl : i.toNat < (xs.take m).length := by rw [List.length_take]; omega
  rw [List.drop_eq_getElem_cons hl]
  have e1 : (i + 1).toNat = i.toNat + 1 := by omega
  have h2 := h.st
  rw [e1] at h2
  simp only [contL, h2]
  have : i.toNat < xs.length := by omega
  simp [List.getD, this]
theorem FoldI.wrap {xs : List Int} {m : Nat} {p q i : Int} (h : FoldI xs m p q i) (hi : i ≥ 0) (hm : m ≤ xs.length) (hf : ∀ j, fitsP (contL ((xs.take m).drop j))) :
    w64 (w64 (xs.getD i.toNat 0 * p) + q) = xs.getD i.toNat 0 * p + q ∧ isCoordF (w64 (w64 (xs.getD i.toNat 0 * p) + q)) = true ∧ isCoordF p = true := by
  have h1 := hf i.toNat
  rw [h.val hi hm] at h1
  obtain ⟨f1, f2, f3, f4⟩ := h1
  simp only at f1 f2 f3 f4
  generalize xs.getD i.toNat 0 = g at *
  have e : w64 (w64 (g * p) + q) = g * p + q := by rw [w64_add_l, w64_in (by omega) (by omega)]
  refine ⟨e, ?_, ?_⟩
  · rw [e]; simp [isCoordF, inF]; omega
  · simp [isCoordF, inF]; omega
theorem FoldI.next {xs : List Int} {m : Nat} {p q i : Int} (h : FoldI xs m p q i) (hi : i ≥ 0) (hm : m ≤ xs.length) (hx : xs.length ≤ 1000001) (hf : ∀ j, fitsP (contL ((xs.take m).drop j))) :
    FoldI xs m (w64 (w64 (xs.getD i.toNat 0 * p) + q)) p (w64 (i - 1)) := by
  have h1 := h.hi
  rw [(h.wrap hi hm hf).1, w64_in (n := i - 1) (by omega) (by omega)]
  refine ⟨by omega, by omega, ?_⟩
  rw [show i - 1 + 1 = i by omega]
  exact h.val hi hm
theorem FoldI.mu {xs : List Int} {m : Nat} {p q i : Int} (h : FoldI xs m p q i) (hi : i ≥ 0) (hm : m ≤ xs.length) (hx : xs.length ≤ 1000001) : (w64 (i - 1) + 1).toNat < (i + 1).toNat := by
  have h1 := h.hi
  rw [w64_in (n := i - 1) (by omega) (by omega)]; omega
theorem FoldI.fin {xs : List Int} {m : Nat} {p q i : Int} (h : FoldI xs m p q i) (hi : ¬ i ≥ 0) : p = (contL (xs.take m)).1 ∧ q = (contL (xs.take m)).2 := by
  have h1 := h.lo; have h2 := h.st
  have : (i + 1).toNat = 0 := by omega
  rw [this, List.drop_zero] at h2
  rw [h2]
  exact ⟨rfl, rfl⟩

/-- The state of the spec's loop over the beginnings of the list l. -/
structure BegI (l : List Int) (i : Int) (L sp : List Value) (n c : Nat) : Prop where
  lo : 1 ≤ i
  hi : i ≤ (l.length : Int) + 1
  num : n = i.toNat - 1
  row : Row L sp n c 2
  lst : L = pl ((convs l).take (i.toNat - 1))
theorem BegI.start (l : List Int) : BegI l 1 [] [] 0 0 := ⟨by omega, by omega, rfl, Row.empty, rfl⟩
theorem BegI.next {l : List Int} {i : Int} {L sp sp' : List Value} {n c c' m : Nat} (h : BegI l i L sp n c) (hi : i ≤ (l.length : Int)) (hl : l.length ≤ 1000001) (hm : m = i.toNat)
    (hr : Row (L ++ [iv (contL (l.take m)).1, iv (contL (l.take m)).2]) sp' (n + 1) c' 2) :
    BegI l (w64 (i + 1)) (L ++ [iv (contL (l.take m)).1, iv (contL (l.take m)).2]) sp' (n + 1) c' := by
  subst hm
  have h1 := h.lo; have h2 := h.num
  rw [w64_in (by omega) (by omega)]
  have e4 : (i + 1).toNat - 1 = (i.toNat - 1) + 1 := by omega
  refine ⟨by omega, by omega, by omega, hr, ?_⟩
  rw [e4, h.lst, take_succ_getD (d := (0, 0)) (by rw [convs_len]; omega), pl_snoc]
  have : (convs l).getD (i.toNat - 1) (0, 0) = contL (l.take i.toNat) := by
    have h3 : i.toNat - 1 < l.length := by omega
    have h4 : i.toNat - 1 + 1 = i.toNat := by omega
    simp [convs, List.getD, h3, h4]
  rw [this]
theorem BegI.fin {l : List Int} {i : Int} {L sp : List Value} {n c : Nat} (h : BegI l i L sp n c) (hi : ¬ i ≤ (l.length : Int)) : L = pl (convs l) ∧ Row (pl (convs l)) sp n c 2 ∧ n = l.length := by
  have h1 := h.lo; have h2 := h.hi; have h3 := h.num
  have e : i.toNat - 1 = l.length := by omega
  have h4 := h.lst
  rw [e, List.take_of_length_le (by rw [convs_len]; omega)] at h4
  exact ⟨h4, h4 ▸ h.row, by omega⟩
theorem BegI.mu {l : List Int} {i : Int} {L sp : List Value} {n c : Nat} (h : BegI l i L sp n c) (hi : i ≤ (l.length : Int)) (hl : l.length ≤ 1000001) : ((l.length : Int) + 1 - w64 (i + 1)).toNat < ((l.length : Int) + 1 - i).toNat := by
  have h1 := h.lo
  rw [w64_in (by omega) (by omega)]; omega

end Go.Ev
