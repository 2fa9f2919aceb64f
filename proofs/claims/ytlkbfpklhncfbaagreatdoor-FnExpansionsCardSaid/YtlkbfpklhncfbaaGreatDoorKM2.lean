/-
  Several texts of this work in one (a claim holds at most 60 files).
  Conditions: as each contract states.
-/
import Derived.Test.YtlkbfpklhncfbaaGreatDoorKM1
section
/-
  Expansions of fractions: the plain law.
  Conditions: none.
-/
set_option linter.unusedVariables false
set_option linter.unusedSimpArgs false
namespace Go.Ev
open Go.RowKit

structure ExpOk (a b : Int) : Prop where
  lo : -1000000 ≤ a
  hi : a ≤ 1000000
  b0 : 0 ≤ b
  b1 : b ≤ 1000000

def expL (p q : Int) : List Int := if h : 0 < q then p / q :: expL q (p % q) else []
termination_by q.toNat
decreasing_by
  have := Int.emod_lt_of_pos p h
  have := Int.emod_nonneg p (show q ≠ 0 by omega)
  omega
theorem expL_zero {p q : Int} (h : ¬ 0 < q) : expL p q = [] := by rw [expL]; simp [h]
theorem expL_step {p q : Int} (h : 0 < q) : expL p q = p / q :: expL q (p % q) := by rw [expL]; simp [h]

/-- The state of the loop: what is laid down, and what is left to be divided. -/
structure ExpI (a b x y : Int) (L : List Value) (xs : List Int) (sp : List Value) (n c : Nat) : Prop where
  ok : ExpOk x y
  row : Row L sp n c 1
  il : L = il xs
  eq : xs ++ expL x y = expL a b
  bd : n + y.toNat ≤ 1000000

theorem ExpI.start {a b : Int} (h : ExpOk a b) : ExpI a b a b [] [] [] 0 0 := ⟨h, Row.empty, rfl, rfl, by have := h.b1; omega⟩
theorem ExpI.pos {a b x y : Int} {L : List Value} {xs : List Int} {sp : List Value} {n c : Nat} (h : ExpI a b x y L xs sp n c) (hy : ¬ y = 0) : 0 < y := by have := h.ok.b0; omega
theorem ExpI.floor {a b x y : Int} {L : List Value} {xs : List Int} {sp : List Value} {n c : Nat} (h : ExpI a b x y L xs sp n c) (hy : ¬ y = 0) : floorF x y = x / y :=
  floorF_eq (h.pos hy) (by have := h.ok.lo; omega) (by have := h.ok.hi; omega)
theorem ExpI.rest {a b x y : Int} {L : List Value} {xs : List Int} {sp : List Value} {n c : Nat} (h : ExpI a b x y L xs sp n c) (hy : ¬ y = 0) : w64 (x - w64 (floorF x y * y)) = x % y := by
  rw [h.floor hy, w64_sub_r]
  have h1 := Int.emod_add_mul_ediv x y
  have h2 := Int.emod_lt_of_pos x (h.pos hy)
  have h3 := Int.emod_nonneg x hy
  have h4 := h.ok.b1
  have e : x - x / y * y = x % y := by rw [Int.mul_comm]; omega
  rw [e, w64_in (by omega) (by omega)]
theorem ExpI.next {a b x y : Int} {L : List Value} {xs : List Int} {sp sp' : List Value} {n c c' : Nat} (h : ExpI a b x y L xs sp n c) (hy : ¬ y = 0) (hr : Row (L ++ [iv (floorF x y)]) sp' (n + 1) c' 1) :
    ExpI a b y (w64 (x - w64 (floorF x y * y))) (L ++ [iv (floorF x y)]) (xs ++ [floorF x y]) sp' (n + 1) c' := by
  have h1 := Int.emod_lt_of_pos x (h.pos hy)
  have h2 := Int.emod_nonneg x hy
  have h3 := h.ok
  have h4 := h.bd
  rw [h.rest hy]
  refine ⟨⟨by have := h3.b0; omega, h3.b1, h2, by have := h3.b1; omega⟩, hr, by rw [il_snoc, h.il], ?_, by omega⟩
  rw [← h.eq, h.floor hy, List.append_assoc, expL_step (h.pos hy)]
  rfl
theorem ExpI.mu {a b x y : Int} {L : List Value} {xs : List Int} {sp : List Value} {n c : Nat} (h : ExpI a b x y L xs sp n c) (hy : ¬ y = 0) : (w64 (x - w64 (floorF x y * y))).toNat < y.toNat := by
  have h1 := Int.emod_lt_of_pos x (h.pos hy)
  have h2 := Int.emod_nonneg x hy
  rw [h.rest hy]; omega
theorem ExpI.fin {a b x y : Int} {L : List Value} {xs : List Int} {sp : List Value} {n c : Nat} (h : ExpI a b x y L xs sp n c) (hy : y = 0) : L = Ev.il (expL a b) ∧ Row (Ev.il (expL a b)) sp n c 1 ∧ n ≤ 1000000 := by
  subst hy
  have h1 := h.eq
  rw [expL_zero (by omega), List.append_nil] at h1
  have h2 : L = Ev.il (expL a b) := by rw [h.il, h1]
  exact ⟨h2, h2 ▸ h.row, by have := h.bd; omega⟩

end Go.Ev
end

section
/-
  Contracts of functions of the program (printed by a program of this work; Lean checks each).
  Conditions: as each contract states.
-/
namespace Go.Proofs.YtlkbfpklhncfbaaGreatDoor
open Go.Ev Go.RowKit
set_option maxRecDepth 100000
set_option linter.unusedVariables false
set_option linter.unusedSimpArgs false

theorem c_impl_expand {a b : Int} (h : ExpOk a b) : CallOK Tryz.prog n_impl_expand [ii a, ii b] [] (fun v m_ => ∃ n c sp, Row (il (expL a b)) sp n c 1 ∧ n ≤ 1000001 ∧ v = .slice (some ⟨0, 0, none⟩) n c ∧ m_ = [(il (expL a b) ++ sp, some 2)]) := by
  refine callOK_ofF good fn_impl_expand ?_
  conv => whnf
  all_goals (repeat' first
    | (refine enter_forget [0] (loop_rec (fun (s : Int × Int × (List Value) × (List Int) × (List Value) × Nat × Nat) => match s with | (x, y, L, xs, sp, n, c) => [ii x, ii y, wild, wild, wild, .slice (some ⟨0, 0, none⟩) n c, wild, wild, wild, wild, wild, wild, wild, wild, wild, wild, wild, wild, wild, wild, wild, wild, wild, wild]) (fun (s : Int × Int × (List Value) × (List Int) × (List Value) × Nat × Nat) => match s with | (x, y, L, xs, sp, n, c) => [(L ++ sp, some 2)]) (fun (s : Int × Int × (List Value) × (List Int) × (List Value) × Nat × Nat) => match s with | (x, y, L, xs, sp, n, c) => y.toNat) (fun (s : Int × Int × (List Value) × (List Int) × (List Value) × Nat × Nat) => match s with | (x, y, L, xs, sp, n, c) => ExpI a b x y L xs sp n c) (a, b, [], [], [], 0, 0) (ExpI.start h) ?_) (tmR_rfl rfl rfl) ⟨⟨⟨_, rfl, .plain rfl rfl (by first | exact Plain.of rfl | exact Row.all (by assumption))⟩⟩, trivial⟩ rfl rfl; rintro fuel_ ⟨x, y, L, xs, sp, n, c⟩ hI IH; replace hI : ExpI a b x y L xs sp n c := hI; conv => whnf)
    | exact next_forget [0] (IH (y, w64 (x - w64 (floorF x y * y)), _, xs ++ [floorF x y], _, _, _) (by exact hI.next (ne_of_dec (by assumption)) ra_) (by exact hI.mu (ne_of_dec (by assumption)))) (tmR_rfl rfl rfl) ⟨⟨⟨_, rfl, .plain rfl rfl (Row.all ra_)⟩⟩, trivial⟩ rfl rfl
    | exact next_forget [2] (IH (y, w64 (x - w64 (floorF x y * y)), _, xs ++ [floorF x y], _, _, _) (by exact hI.next (ne_of_dec (by assumption)) ra_) (by exact hI.mu (ne_of_dec (by assumption)))) (tmR_rfl rfl rfl) ⟨⟨⟨_, rfl, .plain rfl rfl (Row.all ra_)⟩⟩, trivial⟩ rfl rfl
    | (show AppK _ _ _ 1 _ _ _ _ _; refine app_lit hI.row rfl rfl rfl (Plain.of rfl) rfl rfl (by decide) (by have := hI.bd; show (_ + 1) * 8 ≤ _; omega) (by have := hI.bd; omega) (fun hle_ spa_ ra_ => ?_) (fun hle_ ca_ spa_ ra_ => ?_) <;> conv => whnf)
    | (obtain ⟨rfl, hrow_, hn_⟩ := hI.fin (eq_of_dec (by assumption)); exact out_forget [_] ⟨_, _, _, hrow_, by omega, rfl, rfl⟩ rfl (okB2_spec rfl) ⟨⟨_, rfl, .plain rfl rfl (Row.all hrow_)⟩, trivial⟩ rfl rfl)
    | (refine StoreK.mk rfl ?_; conv => whnf)
    | exact join_same
    | exact (by assumption : (_ : Bool) = (_ : Bool))
    | (refine br_true (by assumption) ?_; conv => whnf)
    | (refine br_false (by assumption) ?_; conv => whnf)
    | (refine br_not ?_; conv => whnf)
    | (refine br_code ?_; conv => whnf)
    | (with_reducible refine br_and ?_; conv => whnf)
    | (with_reducible refine br_or ?_; conv => whnf)
    | (refine br_eq2 ?_; conv => whnf)
    | (refine (c_impl_floor ?_).call ?_ <;> conv => whnf)
    | (refine (c_impl_floor ?_).quiet ?_ <;> conv => whnf)
    | (refine draw_auto (by decide +kernel) ?_; conv => whnf)
    | (refine draw_asg (by decide +kernel) ?_; conv => whnf)
    | (refine draw_st (by decide +kernel) ?_; conv => whnf)
    | (refine draw_call (by decide +kernel) ?_; conv => whnf)
    | (refine enter_same (loop_n 12 ?_); conv => whnf)
    | (refine next_same ?_; conv => whnf)
    | (refine mapK_row (by assumption) ?_; conv => whnf)
    | (refine mapK_plain (Plain.of rfl) ?_; conv => whnf)
    | (refine mapK_lit ?_; conv => whnf)
    | (refine br_split (fun _ => ?_) (fun _ => ?_) <;> conv => whnf)
    | exact (rfl : (_ : Value) = _)
    | (simp only [*]; exact (rfl : (_ : Value) = _))
    | (simp [*]; done))

theorem c_spec_l01Expand {a b : Int} (h : ExpOk a b) : CallOK Tryz.prog n_spec_l01Expand [ii a, ii b] [] (fun v m_ => ∃ n c sp, Row (il (expL a b)) sp n c 1 ∧ n ≤ 1000001 ∧ v = .slice (some ⟨0, 0, none⟩) n c ∧ m_ = [(il (expL a b) ++ sp, some 2)]) := by
  refine callOK_ofF good fn_spec_l01Expand ?_
  conv => whnf
  all_goals (repeat' first
    | (refine enter_forget [0] (loop_rec (fun (s : Int × Int × (List Value) × (List Int) × (List Value) × Nat × Nat) => match s with | (x, y, L, xs, sp, n, c) => [ii x, ii y, wild, wild, wild, .slice (some ⟨0, 0, none⟩) n c, wild, wild, wild, wild, wild, wild, wild, wild, wild, wild, wild, wild, wild, wild, wild, wild, wild, wild, wild, wild]) (fun (s : Int × Int × (List Value) × (List Int) × (List Value) × Nat × Nat) => match s with | (x, y, L, xs, sp, n, c) => [(L ++ sp, some 2)]) (fun (s : Int × Int × (List Value) × (List Int) × (List Value) × Nat × Nat) => match s with | (x, y, L, xs, sp, n, c) => y.toNat) (fun (s : Int × Int × (List Value) × (List Int) × (List Value) × Nat × Nat) => match s with | (x, y, L, xs, sp, n, c) => ExpI a b x y L xs sp n c) (a, b, [], [], [], 0, 0) (ExpI.start h) ?_) (tmR_rfl rfl rfl) ⟨⟨⟨_, rfl, .plain rfl rfl (by first | exact Plain.of rfl | exact Row.all (by assumption))⟩⟩, trivial⟩ rfl rfl; rintro fuel_ ⟨x, y, L, xs, sp, n, c⟩ hI IH; replace hI : ExpI a b x y L xs sp n c := hI; conv => whnf)
    | exact next_forget [0] (IH (y, w64 (x - w64 (floorF x y * y)), _, xs ++ [floorF x y], _, _, _) (by exact hI.next (ne_of_dec (by assumption)) ra_) (by exact hI.mu (ne_of_dec (by assumption)))) (tmR_rfl rfl rfl) ⟨⟨⟨_, rfl, .plain rfl rfl (Row.all ra_)⟩⟩, trivial⟩ rfl rfl
    | exact next_forget [2] (IH (y, w64 (x - w64 (floorF x y * y)), _, xs ++ [floorF x y], _, _, _) (by exact hI.next (ne_of_dec (by assumption)) ra_) (by exact hI.mu (ne_of_dec (by assumption)))) (tmR_rfl rfl rfl) ⟨⟨⟨_, rfl, .plain rfl rfl (Row.all ra_)⟩⟩, trivial⟩ rfl rfl
    | (show AppK _ _ _ 1 _ _ _ _ _; refine app_lit hI.row rfl rfl rfl (Plain.of rfl) rfl rfl (by decide) (by have := hI.bd; show (_ + 1) * 8 ≤ _; omega) (by have := hI.bd; omega) (fun hle_ spa_ ra_ => ?_) (fun hle_ ca_ spa_ ra_ => ?_) <;> conv => whnf)
    | (obtain ⟨rfl, hrow_, hn_⟩ := hI.fin (eq_of_dec (by assumption)); exact out_forget [_] ⟨_, _, _, hrow_, by omega, rfl, rfl⟩ rfl (okB2_spec rfl) ⟨⟨_, rfl, .plain rfl rfl (Row.all hrow_)⟩, trivial⟩ rfl rfl)
    | (refine StoreK.mk rfl ?_; conv => whnf)
    | exact join_same
    | exact (by assumption : (_ : Bool) = (_ : Bool))
    | (refine br_true (by assumption) ?_; conv => whnf)
    | (refine br_false (by assumption) ?_; conv => whnf)
    | (refine br_not ?_; conv => whnf)
    | (refine br_code ?_; conv => whnf)
    | (with_reducible refine br_and ?_; conv => whnf)
    | (with_reducible refine br_or ?_; conv => whnf)
    | (refine br_eq2 ?_; conv => whnf)
    | (refine (c_spec_l01Floor ?_).call ?_ <;> conv => whnf)
    | (refine (c_spec_l01Floor ?_).quiet ?_ <;> conv => whnf)
    | (refine draw_auto (by decide +kernel) ?_; conv => whnf)
    | (refine draw_asg (by decide +kernel) ?_; conv => whnf)
    | (refine draw_st (by decide +kernel) ?_; conv => whnf)
    | (refine draw_call (by decide +kernel) ?_; conv => whnf)
    | (refine enter_same (loop_n 12 ?_); conv => whnf)
    | (refine next_same ?_; conv => whnf)
    | (refine mapK_row (by assumption) ?_; conv => whnf)
    | (refine mapK_plain (Plain.of rfl) ?_; conv => whnf)
    | (refine mapK_lit ?_; conv => whnf)
    | (refine br_split (fun _ => ?_) (fun _ => ?_) <;> conv => whnf)
    | exact (rfl : (_ : Value) = _)
    | (simp only [*]; exact (rfl : (_ : Value) = _))
    | (simp [*]; done))

end Go.Proofs.YtlkbfpklhncfbaaGreatDoor
end

section
/-
  Convergents: continuants from either end, and their bounds.
  Conditions: none.
-/
set_option linter.unusedVariables false
set_option linter.unusedSimpArgs false
namespace Go.Ev
open Go.RowKit

def contL : List Int → Int × Int
  | [] => (1, 0)
  | a :: l => (a * (contL l).1 + (contL l).2, (contL l).1)

/-- The state of the recurrence from the front: now and before. -/
def fwdS (l : List Int) (s : (Int × Int) × (Int × Int)) : (Int × Int) × (Int × Int) := l.foldl (fun s a => ((s.2.1 + a * s.1.1, s.2.2 + a * s.1.2), s.1)) s
def fwd (l : List Int) : (Int × Int) × (Int × Int) := fwdS l ((1, 0), (0, 1))

theorem fwdS_now : ∀ (l : List Int) (x y u v : Int), (fwdS l ((x, y), (u, v))).1 = ((contL l).1 * x + (contL l).2 * u, (contL l).1 * y + (contL l).2 * v)
  | [], x, y, u, v => by simp [fwdS, contL]
  | a :: l, x, y, u, v => by
    have := fwdS_now l (u + a * x) (v + a * y) x y
    unfold fwdS at this ⊢
    rw [List.foldl_cons, this]
    simp only [contL]
    refine Prod.ext ?_ ?_ <;> (simp only; grind)
theorem fwd_now (l : List Int) : (fwd l).1 = contL l := by
  unfold fwd
  rw [fwdS_now]
  simp
theorem fwd_snoc (l : List Int) (a : Int) : fwd (l ++ [a]) = (((fwd l).2.1 + a * (fwd l).1.1, (fwd l).2.2 + a * (fwd l).1.2), (fwd l).1) := by
  unfold fwd fwdS
  rw [List.foldl_append]
  rfl

structure CB (p q N D : Int) : Prop where
  n0 : 0 ≤ N
  d0 : 0 ≤ D
  dq : D ≤ q
  np : N ≤ p ∨ N ≤ 1
  dn : p ≥ q → D ≤ N
  df : p > q → N - D ≤ p - q

theorem cb : ∀ (k : Nat) (p q : Int) (m : Nat), q.toNat ≤ k → 0 ≤ p → 0 ≤ q → CB p q (contL ((expL p q).take m)).1 (contL ((expL p q).take m)).2 := by
  intro k
  induction k with
  | zero =>
    intro p q m hk hp hq
    rw [expL_zero (by omega)]
    simp only [List.take_nil, contL]
    exact ⟨by omega, by omega, by omega, .inr (by omega), fun _ => by omega, fun _ => by omega⟩
  | succ k ih =>
    intro p q m hk hp hq
    by_cases h0 : 0 < q
    · cases m with
      | zero =>
        simp only [List.take_zero, contL]
        exact ⟨by omega, by omega, by omega, .inr (by omega), fun _ => by omega, fun _ => by omega⟩
      | succ m =>
        rw [expL_step h0, List.take_succ_cons]
        have h1 := Int.emod_lt_of_pos p h0
        have h2 := Int.emod_nonneg p (show q ≠ 0 by omega)
        have h3 := Int.emod_add_mul_ediv p q
        have h4 : 0 ≤ p / q := Int.ediv_nonneg hp hq
        have h := ih q (p % q) m (by omega) hq h2
        simp only [contL]
        generalize (contL ((expL q (p % q)).take m)).1 = N at *
        generalize (contL ((expL q (p % q)).take m)).2 = D at *
        generalize p % q = r at *
        generalize p / q = a at *
        have hn := h.n0; have hd := h.d0; have hdq := h.dq; have hnp := h.np; have hdn := h.dn (by omega); have hdf := h.df (by omega)
        have hnq : N ≤ q := by omega
        have e1 : a * N ≤ a * q := Int.mul_le_mul_of_nonneg_left hnq h4
        have e2 : 0 ≤ a * N := Int.mul_nonneg h4 hn
        have e3 : a * q = q * a := Int.mul_comm a q
        refine ⟨by omega, by omega, by omega, .inl (by omega), fun hpq => ?_, fun hpq => ?_⟩
        · have ha : 1 ≤ a := by
            rcases (by omega : a < 1 ∨ 1 ≤ a) with h5 | h5
            · have : a = 0 := by omega
              subst this
              omega
            · exact h5
          have : 1 * N ≤ a * N := Int.mul_le_mul_of_nonneg_right ha hn
          omega
        · have ha : 1 ≤ a := by
            rcases (by omega : a < 1 ∨ 1 ≤ a) with h5 | h5
            · have : a = 0 := by omega
              subst this
              omega
            · exact h5
          have e4 : (a - 1) * N ≤ (a - 1) * q := Int.mul_le_mul_of_nonneg_left hnq (by omega)
          rw [Int.sub_mul, Int.sub_mul] at e4
          omega
    · rw [expL_zero h0]
      simp only [List.take_nil, contL]
      exact ⟨by omega, by omega, by omega, .inr (by omega), fun _ => by omega, fun _ => by omega⟩

def fitsP (c : Int × Int) : Prop := -1000000 ≤ c.1 ∧ c.1 ≤ 1000000 ∧ -1000000 ≤ c.2 ∧ c.2 ≤ 1000000

theorem fits0 {p q : Int} (hp : 0 ≤ p) (hp2 : p ≤ 1000000) (hq : 0 ≤ q) (hq2 : q ≤ 1000000) (m : Nat) : fitsP (contL ((expL p q).take m)) := by
  have h := cb q.toNat p q m (Nat.le_refl _) hp hq
  have h1 := h.n0; have h2 := h.d0; have h3 := h.dq; have h4 := h.np
  exact ⟨by omega, by omega, by omega, by omega⟩
theorem fits1 : ∀ (j : Nat) {p q : Int} (hp : 0 ≤ p) (hp2 : p ≤ 1000000) (hq : 0 ≤ q) (hq2 : q ≤ 1000000) (m : Nat), fitsP (contL (((expL p q).take m).drop j))
  | 0, p, q, hp, hp2, hq, hq2, m => by simpa using fits0 hp hp2 hq hq2 m
  | j + 1, p, q, hp, hp2, hq, hq2, m => by
    by_cases h0 : 0 < q
    · cases m with
      | zero => simp [contL, fitsP]
      | succ m =>
        have h1 := Int.emod_lt_of_pos p h0
        have h2 := Int.emod_nonneg p (show q ≠ 0 by omega)
        rw [expL_step h0, List.take_succ_cons, List.drop_succ_cons]
        exact fits1 j hq hq2 h2 (by omega) m
    · rw [expL_zero h0]
      simp [contL, fitsP]
/-- All continuants that the spec's fold reckons are coordinates. -/
theorem fits {p q : Int} (h : ExpOk p q) (j m : Nat) : fitsP (contL (((expL p q).take m).drop j)) := by
  have hlo := h.lo; have hhi := h.hi; have hb0 := h.b0; have hb1 := h.b1
  by_cases h0 : 0 < q
  · cases m with
    | zero => simp [contL, fitsP]
    | succ m =>
      have h1 := Int.emod_lt_of_pos p h0
      have h2 := Int.emod_nonneg p (show q ≠ 0 by omega)
      rw [expL_step h0, List.take_succ_cons]
      cases j with
      | succ j => rw [List.drop_succ_cons]; exact fits1 j (by omega) hb1 h2 (by omega) m
      | zero =>
        rw [List.drop_zero]
        have h3 := Int.emod_add_mul_ediv p q
        have h := cb (p % q).toNat q (p % q) m (Nat.le_refl _) (by omega) h2
        simp only [contL]
        generalize (contL ((expL q (p % q)).take m)).1 = N at *
        generalize (contL ((expL q (p % q)).take m)).2 = D at *
        generalize p % q = r at *
        generalize p / q = a at *
        have hn := h.n0; have hd := h.d0; have hdq := h.dq; have hnp := h.np; have hdn := h.dn (by omega); have hdf := h.df (by omega)
        have hnq : N ≤ q := by omega
        have e3 : a * q = q * a := Int.mul_comm a q
        unfold fitsP
        simp only
        rcases (by omega : a < 0 ∨ 0 ≤ a) with ha | ha
        · have e1 : (-1 - a) * N ≤ (-1 - a) * q := Int.mul_le_mul_of_nonneg_left hnq (by omega)
          have e2 : 0 ≤ (-a) * N := Int.mul_nonneg (by omega) hn
          rw [Int.sub_mul, Int.sub_mul] at e1
          rw [Int.neg_mul] at e2
          refine ⟨by omega, by omega, by omega, by omega⟩
        · have e1 : a * N ≤ a * q := Int.mul_le_mul_of_nonneg_left hnq ha
          have e2 : 0 ≤ a * N := Int.mul_nonneg ha hn
          refine ⟨by omega, by omega, by omega, by omega⟩
  · rw [expL_zero h0]
    simp [contL, fitsP]

/-- All convergents. -/
def convs (l : List Int) : List (Int × Int) := (List.range l.length).map fun k => contL (l.take (k + 1))
theorem convs_len (l : List Int) : (convs l).length = l.length := by simp [convs]

theorem plusF_eq {a k c : Int} (h1 : -9223372036854775808 ≤ a + k * c) (h2 : a + k * c ≤ 9223372036854775807) : plusF a k c = a + k * c := by
  unfold plusF
  rw [w64_add_r, w64_in h1 h2]

theorem take_succ_getD {α : Type} {l : List α} {i : Nat} {d : α} (h : i < l.length) : l.take (i + 1) = l.take i ++ [l.getD i d] := by
  rw [List.take_add_one]
  simp [List.getD, h]

/-- The state of the loop that makes the convergents of the list l. -/
structure ConvI (l : List Int) (i x y u v : Int) (L sp : List Value) (n c : Nat) : Prop where
  lo : 0 ≤ i
  hi : i ≤ (l.length : Int)
  num : n = i.toNat
  row : Row L sp n c 2
  lst : L = pl ((convs l).take i.toNat)
  st : fwd (l.take i.toNat) = ((x, y), (u, v))
theorem ConvI.start (l : List Int) : ConvI l 0 1 0 0 1 [] [] 0 0 := ⟨by omega, by omega, rfl, Row.empty, rfl, rfl⟩
theorem ConvI.now {l : List Int} {i x y u v : Int} {L sp : List Value} {n c : Nat} (h : ConvI l i x y u v L sp n c) (hi : i < (l.length : Int)) (hf : ∀ m, fitsP (contL (l.take m))) :
    plusF u (l.getD i.toNat 0) x = (contL (l.take (i.toNat + 1))).1 ∧ plusF v (l.getD i.toNat 0) y = (contL (l.take (i.toNat + 1))).2 ∧ fwd (l.take (i.toNat + 1)) = (contL (l.take (i.toNat + 1)), (x, y)) := by
  have h1 := h.lo
  have hl : i.toNat < l.length := by omega
  have e1 : fwd (l.take (i.toNat + 1)) = ((u + l.getD i.toNat 0 * x, v + l.getD i.toNat 0 * y), (x, y)) := by
    rw [take_succ_getD (d := 0) hl, fwd_snoc, h.st]
  have e2 := fwd_now (l.take (i.toNat + 1))
  rw [e1] at e2
  simp only at e2
  obtain ⟨f1, f2, f3, f4⟩ := hf (i.toNat + 1)
  rw [← e2] at f1 f2 f3 f4 ⊢
  simp only at f1 f2 f3 f4 ⊢
  exact ⟨plusF_eq (by omega) (by omega), plusF_eq (by omega) (by omega), e1⟩
theorem ConvI.next {l : List Int} {i x y u v : Int} {L sp sp' : List Value} {n c c' : Nat} (h : ConvI l i x y u v L sp n c) (hi : i < (l.length : Int)) (hl : l.length ≤ 1000001) (hf : ∀ m, fitsP (contL (l.take m)))
    (hr : Row (L ++ [iv (plusF u (l.getD i.toNat 0) x), iv (plusF v (l.getD i.toNat 0) y)]) sp' (n + 1) c' 2) :
    ConvI l (w64 (i + 1)) (plusF u (l.getD i.toNat 0) x) (plusF v (l.getD i.toNat 0) y) x y (L ++ [iv (plusF u (l.getD i.toNat 0) x), iv (plusF v (l.getD i.toNat 0) y)]) sp' (n + 1) c' := by
  have h1 := h.lo
  obtain ⟨e1, e2, e3⟩ := h.now hi hf
  rw [w64_in (by omega) (by omega)]
  have e4 : (i + 1).toNat = i.toNat + 1 := by omega
  refine ⟨by omega, by omega, by rw [h.num, e4], hr, ?_, ?_⟩
  · rw [e1, e2, e4, h.lst, take_succ_getD (d := (0, 0)) (by rw [convs_len]; omega), pl_snoc]
    have : (convs l).getD i.toNat (0, 0) = contL (l.take (i.toNat + 1)) := by
      have : i.toNat < l.length := by omega
      simp [convs, List.getD, this]
    rw [this]
  · rw [e1, e2, e4, e3]
theorem ConvI.fin {l : List Int} {i x y u v : Int} {L sp : List Value} {n c : Nat} (h : ConvI l i x y u v L sp n c) (hi : ¬ i < (l.length : Int)) : L = pl (convs l) ∧ Row (pl (convs l)) sp n c 2 ∧ n = l.length := by
  have h1 := h.lo; have h2 := h.hi; have h3 := h.num
  have e : i.toNat = l.length := by omega
  have h4 := h.lst
  rw [e, List.take_of_length_le (by rw [convs_len]; omega)] at h4
  exact ⟨h4, h4 ▸ h.row, by omega⟩

/-- The state of the spec's fold of the first m numbers: those from i + 1 on are reckoned. -/
structure FoldI (xs : List Int) (m : Nat) (p q i : Int) : Prop where
  lo : -1 ≤ i
  hi : i < (m : Int) - 1 + 1
  st : contL ((xs.take m).drop (i + 1).toNat) = (p, q)
theorem FoldI.start {xs : List Int} {m : Nat} (h : 0 < m) (hm : m ≤ xs.length) (hx : xs.length ≤ 1000001) : FoldI xs m (xs.getD (w64 ((m : Int) - 1)).toNat 0) 1 (w64 ((m : Int) - 2)) := by
  rw [w64_in (by omega) (by omega), w64_in (by omega) (by omega)]
  refine ⟨by omega, by omega, ?_⟩
  have e1 : ((m : Int) - 2 + 1).toNat = m - 1 := by omega
  have e2 : ((m : Int) - 1).toNat = m - 1 := by omega
  rw [e1, e2]
  have hl : m - 1 < (xs.take m).length := by rw [List.length_take]; omega
  rw [List.drop_eq_getElem_cons hl, List.drop_of_length_le (by rw [List.length_take]; omega)]
  have : m - 1 < xs.length := by omega
  simp [contL, List.getD, this]
theorem FoldI.val {xs : List Int} {m : Nat} {p q i : Int} (h : FoldI xs m p q i) (hi : i ≥ 0) (hm : m ≤ xs.length) : contL ((xs.take m).drop i.toNat) = (xs.getD i.toNat 0 * p + q, p) := by
  have h1 := h.hi
  have hl : i.toNat < (xs.take m).length := by rw [List.length_take]; omega
  rw [List.drop_eq_getElem_cons hl]
  have e1 : (i + 1).toNat = i.toNat + 1 := by omega
  have h2 := h.st
  rw [e1] at h2
  simp only [contL, h2]
  have : i.toNat < xs.length := by omega
  simp [List.getD, this]
theorem FoldI.wrap {xs : List Int} {m : Nat} {p q i : Int} (h : FoldI xs m p q i) (hi : i ≥ 0) (hm : m ≤ xs.length) (hf : ∀ j, fitsP (contL ((xs.take m).drop j))) :
    w64 (w64 (xs.getD i.toNat 0 * p) + q) = xs.getD i.toNat 0 * p + q ∧ isCoordF (w64 (w64 (xs.getD i.toNat 0 * p) + q)) = true ∧ isCoordF p = true := by
  have h1 := hf i.toNat
  rw [h.val hi hm] at h1
  obtain ⟨f1, f2, f3, f4⟩ := h1
  simp only at f1 f2 f3 f4
  generalize xs.getD i.toNat 0 = g at *
  have e : w64 (w64 (g * p) + q) = g * p + q := by rw [w64_add_l, w64_in (by omega) (by omega)]
  refine ⟨e, ?_, ?_⟩
  · rw [e]; simp [isCoordF, inF]; omega
  · simp [isCoordF, inF]; omega
theorem FoldI.next {xs : List Int} {m : Nat} {p q i : Int} (h : FoldI xs m p q i) (hi : i ≥ 0) (hm : m ≤ xs.length) (hx : xs.length ≤ 1000001) (hf : ∀ j, fitsP (contL ((xs.take m).drop j))) :
    FoldI xs m (w64 (w64 (xs.getD i.toNat 0 * p) + q)) p (w64 (i - 1)) := by
  have h1 := h.hi
  rw [(h.wrap hi hm hf).1, w64_in (n := i - 1) (by omega) (by omega)]
  refine ⟨by omega, by omega, ?_⟩
  rw [show i - 1 + 1 = i by omega]
  exact h.val hi hm
theorem FoldI.mu {xs : List Int} {m : Nat} {p q i : Int} (h : FoldI xs m p q i) (hi : i ≥ 0) (hm : m ≤ xs.length) (hx : xs.length ≤ 1000001) : (w64 (i - 1) + 1).toNat < (i + 1).toNat := by
  have h1 := h.hi
  rw [w64_in (n := i - 1) (by omega) (by omega)]; omega
theorem FoldI.fin {xs : List Int} {m : Nat} {p q i : Int} (h : FoldI xs m p q i) (hi : ¬ i ≥ 0) : p = (contL (xs.take m)).1 ∧ q = (contL (xs.take m)).2 := by
  have h1 := h.lo; have h2 := h.st
  have : (i + 1).toNat = 0 := by omega
  rw [this, List.drop_zero] at h2
  rw [h2]
  exact ⟨rfl, rfl⟩

/-- The state of the spec's loop over the beginnings of the list l. -/
structure BegI (l : List Int) (i : Int) (L sp : List Value) (n c : Nat) : Prop where
  lo : 1 ≤ i
  hi : i ≤ (l.length : Int) + 1
  num : n = i.toNat - 1
  row : Row L sp n c 2
  lst : L = pl ((convs l).take (i.toNat - 1))
theorem BegI.start (l : List Int) : BegI l 1 [] [] 0 0 := ⟨by omega, by omega, rfl, Row.empty, rfl⟩
theorem BegI.next {l : List Int} {i : Int} {L sp sp' : List Value} {n c c' m : Nat} (h : BegI l i L sp n c) (hi : i ≤ (l.length : Int)) (hl : l.length ≤ 1000001) (hm : m = i.toNat)
    (hr : Row (L ++ [iv (contL (l.take m)).1, iv (contL (l.take m)).2]) sp' (n + 1) c' 2) :
    BegI l (w64 (i + 1)) (L ++ [iv (contL (l.take m)).1, iv (contL (l.take m)).2]) sp' (n + 1) c' := by
  subst hm
  have h1 := h.lo; have h2 := h.num
  rw [w64_in (by omega) (by omega)]
  have e4 : (i + 1).toNat - 1 = (i.toNat - 1) + 1 := by omega
  refine ⟨by omega, by omega, by omega, hr, ?_⟩
  rw [e4, h.lst, take_succ_getD (d := (0, 0)) (by rw [convs_len]; omega), pl_snoc]
  have : (convs l).getD (i.toNat - 1) (0, 0) = contL (l.take i.toNat) := by
    have h3 : i.toNat - 1 < l.length := by omega
    have h4 : i.toNat - 1 + 1 = i.toNat := by omega
    simp [convs, List.getD, h3, h4]
  rw [this]
theorem BegI.fin {l : List Int} {i : Int} {L sp : List Value} {n c : Nat} (h : BegI l i L sp n c) (hi : ¬ i ≤ (l.length : Int)) : L = pl (convs l) ∧ Row (pl (convs l)) sp n c 2 ∧ n = l.length := by
  have h1 := h.lo; have h2 := h.hi; have h3 := h.num
  have e : i.toNat - 1 = l.length := by omega
  have h4 := h.lst
  rw [e, List.take_of_length_le (by rw [convs_len]; omega)] at h4
  exact ⟨h4, h4 ▸ h.row, by omega⟩
theorem BegI.mu {l : List Int} {i : Int} {L sp : List Value} {n c : Nat} (h : BegI l i L sp n c) (hi : i ≤ (l.length : Int)) (hl : l.length ≤ 1000001) : ((l.length : Int) + 1 - w64 (i + 1)).toNat < ((l.length : Int) + 1 - i).toNat := by
  have h1 := h.lo
  rw [w64_in (by omega) (by omega)]; omega

end Go.Ev
end

section
/-
  Contracts of functions of the program (printed by a program of this work; Lean checks each).
  Conditions: as each contract states.
-/
namespace Go.Proofs.YtlkbfpklhncfbaaGreatDoor
open Go.Ev Go.RowKit
set_option maxRecDepth 100000
set_option linter.unusedVariables false
set_option linter.unusedSimpArgs false

theorem c_impl_convergents {a b : Int} (h : ExpOk a b) : CallOK Tryz.prog n_impl_convergents [ii a, ii b] [] (fun v m_ => ∃ n c sp, Row (pl (convs (expL a b))) sp n c 2 ∧ n ≤ 1000001 ∧ v = .slice (some ⟨0, 0, none⟩) n c ∧ m_ = [(pl (convs (expL a b)) ++ sp, some t_impl_Point)]) := by
  refine callOK_ofF good fn_impl_convergents ?_
  conv => whnf
  all_goals (repeat' first
    | (refine enter_forget [0, 1, 2, 3] (loop_rec (fun (s : Int × Int × Int × Int × Int × (List Value) × (List Value) × Nat × Nat) => match s with | (i, x, y, u, v, L, sp, n, c) => [wild, wild, wild, wild, wild, .slice (some ⟨0, 0, none⟩) n c, .pointer (some ⟨1, 0, none⟩), .pointer (some ⟨2, 0, none⟩), wild, wild, wild, wild, wild, wild, wild, .slice (some ⟨3, 0, none⟩) n_ c_, ii (n_ : Int), ii i, wild, wild, wild, wild, wild, wild, wild, wild, wild, wild, wild, wild, wild, wild]) (fun (s : Int × Int × Int × Int × Int × (List Value) × (List Value) × Nat × Nat) => match s with | (i, x, y, u, v, L, sp, n, c) => [(L ++ sp, some t_impl_Point), ([ii x, ii y], some t_impl_Point), ([ii u, ii v], some t_impl_Point), (il (expL a b) ++ sp_, some 2)]) (fun (s : Int × Int × Int × Int × Int × (List Value) × (List Value) × Nat × Nat) => match s with | (i, x, y, u, v, L, sp, n, c) => ((n_ : Int) - i).toNat) (fun (s : Int × Int × Int × Int × Int × (List Value) × (List Value) × Nat × Nat) => match s with | (i, x, y, u, v, L, sp, n, c) => ConvI (expL a b) i x y u v L sp n c) (0, 1, 0, 0, 1, [], [], 0, 0) (ConvI.start _) ?_) (tmR_rfl rfl rfl) ⟨⟨⟨_, rfl, .plain rfl rfl (by first | exact Plain.of rfl | exact Row.all (by assumption))⟩⟩, ⟨⟨_, rfl, .plain rfl rfl (by first | exact Plain.of rfl | exact Row.all (by assumption))⟩⟩, ⟨⟨_, rfl, .plain rfl rfl (by first | exact Plain.of rfl | exact Row.all (by assumption))⟩⟩, ⟨⟨_, rfl, .plain rfl rfl (by first | exact Plain.of rfl | exact Row.all (by assumption))⟩⟩, trivial⟩ rfl rfl; rintro fuel_ ⟨i, x, y, u, v, L, sp, n, c⟩ hI IH; replace hI : ConvI (expL a b) i x y u v L sp n c := hI; conv => whnf)
    | exact next_forget [_, 1, 2, 3] (IH (w64 (i + 1), _, _, _, _, _, _, _, _) (by exact hI.next (by have hl_ := row_il hrow_; (try clear IH); (try simp only [decide_eq_true_eq, decide_eq_false_iff_not, Bool.not_eq_true, Bool.not_eq_false, Bool.not_eq_eq_eq_not, Bool.not_true, Bool.not_false] at *); omega) (by have := row_il hrow_; omega) (fun m => by have := fits h 0 m; simpa using this) ra_) (by exact idx_mu ⟨hI.lo, (by have hl_ := row_il hrow_; have := hI.lo; have := hI.hi; (try clear IH); (try simp only [decide_eq_true_eq, decide_eq_false_iff_not, Bool.not_eq_true, Bool.not_eq_false, Bool.not_eq_eq_eq_not, Bool.not_true, Bool.not_false] at *); omega)⟩ (by assumption) (by omega))) (tmR_rfl rfl rfl) ⟨⟨⟨_, rfl, .plain rfl rfl (Row.all ra_)⟩⟩, ⟨⟨_, rfl, .plain rfl rfl (by first | exact Plain.of rfl | exact Row.all (by assumption))⟩⟩, ⟨⟨_, rfl, .plain rfl rfl (by first | exact Plain.of rfl | exact Row.all (by assumption))⟩⟩, ⟨⟨_, rfl, .plain rfl rfl (Row.all hrow_)⟩⟩, trivial⟩ rfl rfl
    | (refine br_in (by have hl_ := row_il hrow_; have := hI.lo; have := hI.hi; (try clear IH); (try simp only [decide_eq_true_eq, decide_eq_false_iff_not, Bool.not_eq_true, Bool.not_eq_false, Bool.not_eq_eq_eq_not, Bool.not_true, Bool.not_false] at *); omega) (by have hl_ := row_il hrow_; have := hI.lo; have := hI.hi; (try clear IH); (try simp only [decide_eq_true_eq, decide_eq_false_iff_not, Bool.not_eq_true, Bool.not_eq_false, Bool.not_eq_eq_eq_not, Bool.not_true, Bool.not_false] at *); omega) ?_; conv => whnf)
    | (refine force_eq (take_il (i := i.toNat) (by simp only [Nat.mul_one, Nat.zero_add]) (by have := hI.lo; have hl_ := row_il hrow_; (try clear IH); (try simp only [decide_eq_true_eq, decide_eq_false_iff_not, Bool.not_eq_true, Bool.not_eq_false, Bool.not_eq_eq_eq_not, Bool.not_true, Bool.not_false] at *); omega)) ?_; conv => whnf)
    | (show AppK _ _ _ 2 _ _ _ _ _; refine app_lit hI.row rfl rfl rfl (Plain.of rfl) rfl rfl (by decide) (by have := hI.lo; have := hI.hi; have := hI.num; have hl_ := row_il hrow_; clear IH; have : n_ ≤ 1000001 := hn_; show (_ + 1) * 16 ≤ _; omega) (by have := hI.lo; have := hI.hi; have := hI.num; have hl_ := row_il hrow_; clear IH; have : n_ ≤ 1000001 := hn_; omega) (fun hle_ spa_ ra_ => ?_) (fun hle_ ca_ spa_ ra_ => ?_) <;> conv => whnf)
    | (obtain ⟨rfl, hrow2_, hn2_⟩ := hI.fin (by have hl_ := row_il hrow_; have := of_decide_eq_false (by assumption); clear IH; omega); exact out_forget [_] ⟨_, _, _, hrow2_, by have hl_ := row_il hrow_; omega, rfl, rfl⟩ rfl (okB2_spec rfl) ⟨⟨_, rfl, .plain rfl rfl (Row.all hrow2_)⟩, trivial⟩ rfl rfl)
    | (refine StoreK.mk rfl ?_; conv => whnf)
    | exact join_same
    | exact (by assumption : (_ : Bool) = (_ : Bool))
    | (refine br_true (by assumption) ?_; conv => whnf)
    | (refine br_false (by assumption) ?_; conv => whnf)
    | (refine br_not ?_; conv => whnf)
    | (refine br_code ?_; conv => whnf)
    | (with_reducible refine br_and ?_; conv => whnf)
    | (with_reducible refine br_or ?_; conv => whnf)
    | (refine br_eq2 ?_; conv => whnf)
    | (refine CallOK.useR (c_impl_expand (by first | assumption | exact Row.lit rfl rfl | omega)) [] rfl rfl rfl trivial (fun v_ mem_ hR => ?_); obtain ⟨n_, c_, sp_, hrow_, hn_, rfl, rfl⟩ := hR; refine ⟨rfl, ?_⟩; conv => whnf)
    | (refine c_impl_Point_plus.call ?_; conv => whnf)
    | (refine c_impl_Point_plus.quiet ?_; conv => whnf)
    | (refine draw_auto (by decide +kernel) ?_; conv => whnf)
    | (refine draw_asg (by decide +kernel) ?_; conv => whnf)
    | (refine draw_st (by decide +kernel) ?_; conv => whnf)
    | (refine draw_call (by decide +kernel) ?_; conv => whnf)
    | (refine enter_same (loop_n 12 ?_); conv => whnf)
    | (refine next_same ?_; conv => whnf)
    | (refine mapK_row (by assumption) ?_; conv => whnf)
    | (refine mapK_plain (Plain.of rfl) ?_; conv => whnf)
    | (refine mapK_lit ?_; conv => whnf)
    | (refine br_split (fun _ => ?_) (fun _ => ?_) <;> conv => whnf)
    | exact (rfl : (_ : Value) = _)
    | (simp only [*]; exact (rfl : (_ : Value) = _))
    | (simp [*]; done))

theorem c_spec_l01Fold {xs : List Int} {sp : List Value} {m c : Nat} (h : 0 < m) (hm : m ≤ xs.length) (hx : xs.length ≤ 1000001) (hf : ∀ j, fitsP (contL ((xs.take m).drop j))) (hpl : Plain (il xs ++ sp)) : CallOK Tryz.prog n_spec_l01Fold [.slice (some ⟨0, 0, none⟩) m c] [(il xs ++ sp, none)] (fun v m_ => v = .tuple #[ii (contL (xs.take m)).1, ii (contL (xs.take m)).2, bb true] ∧ m_ = [(il xs ++ sp, none)]) := by
  refine callOK_ofF good fn_spec_l01Fold ?_
  conv => whnf
  all_goals (repeat' first
    | (refine enter_forget [] (loop_rec (fun (s : Int × Int × Int) => match s with | (p, q, i) => [.slice (some ⟨0, 0, none⟩) m c, wild, wild, wild, wild, ii p, ii q, ii i, wild, wild, wild, wild, wild, wild, wild, wild, wild, wild, wild, wild, wild, wild, wild, wild, wild, wild, wild, wild, wild, wild, wild, wild, wild, wild, wild, wild, wild, wild, wild, wild, wild, wild]) (fun (s : Int × Int × Int) => match s with | (p, q, i) => [(il xs ++ sp, none)]) (fun (s : Int × Int × Int) => match s with | (p, q, i) => (i + 1).toNat) (fun (s : Int × Int × Int) => match s with | (p, q, i) => FoldI xs m p q i) (_, _, _) (FoldI.start h hm hx) ?_) (tmR_rfl rfl rfl) ⟨⟨⟨_, rfl, .plain rfl rfl hpl⟩⟩, trivial⟩ rfl rfl; rintro fuel_ ⟨p, q, i⟩ hI IH; replace hI : FoldI xs m p q i := hI; conv => whnf)
    | exact next_forget [] (IH (w64 (w64 (xs.getD i.toNat 0 * p) + q), p, w64 (i - 1)) (hI.next (of_decide_eq_true (by assumption)) hm hx hf) (hI.mu (of_decide_eq_true (by assumption)) hm hx)) (tmR_rfl rfl rfl) ⟨⟨⟨_, rfl, .plain rfl rfl hpl⟩⟩, trivial⟩ rfl rfl
    | (refine br_true (hI.wrap (of_decide_eq_true (by assumption)) hm hf).2.1 ?_; conv => whnf)
    | (refine br_true (hI.wrap (of_decide_eq_true (by assumption)) hm hf).2.2 ?_; conv => whnf)
    | (refine br_in (by (try clear IH); (try simp only [w64_def, decide_eq_true_eq, decide_eq_false_iff_not, Bool.not_eq_true, Bool.not_eq_false, Bool.not_eq_eq_eq_not, Bool.not_true, Bool.not_false] at *); omega) (by (try clear IH); (try simp only [w64_def, decide_eq_true_eq, decide_eq_false_iff_not, Bool.not_eq_true, Bool.not_eq_false, Bool.not_eq_eq_eq_not, Bool.not_true, Bool.not_false] at *); omega) ?_; conv => whnf)
    | (refine br_in (by have := of_decide_eq_true (by assumption); omega) (by have := hI.hi; omega) ?_; conv => whnf)
    | (refine force_eq (take_il (i := (w64 ((m : Int) - 1)).toNat) (by omega) (by (try clear IH); (try simp only [w64_def, decide_eq_true_eq, decide_eq_false_iff_not, Bool.not_eq_true, Bool.not_eq_false, Bool.not_eq_eq_eq_not, Bool.not_true, Bool.not_false] at *); omega)) ?_; conv => whnf)
    | (refine force_eq (take_il (i := i.toNat) (by simp only [Nat.mul_one, Nat.zero_add]) (by have := hI.hi; have h0_ := of_decide_eq_true (by assumption); clear IH; omega)) ?_; conv => whnf)
    | (obtain ⟨rfl, rfl⟩ := hI.fin (of_decide_eq_false (by assumption)); exact out_forget [] ⟨rfl, rfl⟩ rfl (okB2_spec rfl) ⟨⟨_, rfl, .plain rfl rfl hpl⟩, trivial⟩ rfl rfl)
    | (refine StoreK.mk rfl ?_; conv => whnf)
    | exact join_same
    | exact (by assumption : (_ : Bool) = (_ : Bool))
    | (refine br_true (by assumption) ?_; conv => whnf)
    | (refine br_false (by assumption) ?_; conv => whnf)
    | (refine br_not ?_; conv => whnf)
    | (refine br_code ?_; conv => whnf)
    | (with_reducible refine br_and ?_; conv => whnf)
    | (with_reducible refine br_or ?_; conv => whnf)
    | (refine br_eq2 ?_; conv => whnf)
    | (refine c_spec_l01Fits.call ?_; conv => whnf)
    | (refine c_spec_l01Fits.quiet ?_; conv => whnf)
    | (refine draw_auto (by decide +kernel) ?_; conv => whnf)
    | (refine draw_asg (by decide +kernel) ?_; conv => whnf)
    | (refine draw_st (by decide +kernel) ?_; conv => whnf)
    | (refine draw_call (by decide +kernel) ?_; conv => whnf)
    | (refine enter_same (loop_n 12 ?_); conv => whnf)
    | (refine next_same ?_; conv => whnf)
    | (refine mapK_row (by assumption) ?_; conv => whnf)
    | (refine mapK_plain (Plain.of rfl) ?_; conv => whnf)
    | (refine mapK_lit ?_; conv => whnf)
    | (refine br_split (fun _ => ?_) (fun _ => ?_) <;> conv => whnf)
    | exact (rfl : (_ : Value) = _)
    | (simp only [*]; exact (rfl : (_ : Value) = _))
    | (simp [*]; done))

end Go.Proofs.YtlkbfpklhncfbaaGreatDoor
end

section
/-
  Contracts of functions of the program (printed by a program of this work; Lean checks each).
  Conditions: as each contract states.
-/
namespace Go.Proofs.YtlkbfpklhncfbaaGreatDoor
open Go.Ev Go.RowKit
set_option maxRecDepth 100000
set_option linter.unusedVariables false
set_option linter.unusedSimpArgs false

def ratF (p q : Int) : Bool := isCoordF p && inF q 1 1000000

theorem c_impl_ratioOk {a b : Int}  : Pure Tryz.prog n_impl_ratioOk [ii a, ii b] (bb (ratF a b)) := by
  refine pure_of good fn_impl_ratioOk rfl rfl ?_
  conv => whnf
  all_goals (repeat' first
    | (refine StoreK.mk rfl ?_; conv => whnf)
    | exact join_same
    | exact (by assumption : (_ : Bool) = (_ : Bool))
    | (refine br_true (by assumption) ?_; conv => whnf)
    | (refine br_false (by assumption) ?_; conv => whnf)
    | (refine br_not ?_; conv => whnf)
    | (refine br_code ?_; conv => whnf)
    | (with_reducible refine br_and ?_; conv => whnf)
    | (with_reducible refine br_or ?_; conv => whnf)
    | (refine br_eq2 ?_; conv => whnf)
    | (refine c_impl_isCoord.call ?_; conv => whnf)
    | (refine c_impl_isCoord.quiet ?_; conv => whnf)
    | (refine c_impl_in.call ?_; conv => whnf)
    | (refine c_impl_in.quiet ?_; conv => whnf)
    | (refine draw_auto (by decide +kernel) ?_; conv => whnf)
    | (refine draw_asg (by decide +kernel) ?_; conv => whnf)
    | (refine draw_st (by decide +kernel) ?_; conv => whnf)
    | (refine draw_call (by decide +kernel) ?_; conv => whnf)
    | (refine enter_same (loop_n 12 ?_); conv => whnf)
    | (refine next_same ?_; conv => whnf)
    | (refine mapK_row (by assumption) ?_; conv => whnf)
    | (refine mapK_plain (Plain.of rfl) ?_; conv => whnf)
    | (refine mapK_lit ?_; conv => whnf)
    | (refine br_split (fun _ => ?_) (fun _ => ?_) <;> conv => whnf)
    | exact (rfl : (_ : Value) = _)
    | (simp only [*]; exact (rfl : (_ : Value) = _))
    | (simp [ratF, *]; done))

theorem ratF_ok {a b : Int} (h : ratF a b = true) : ExpOk a b := by
  simp only [ratF, isCoordF, inF, Bool.and_eq_true, decide_eq_true_eq] at h
  exact ⟨by omega, by omega, by omega, by omega⟩

theorem c_impl_ConvergentsOf_ok {a b : Int} (h : ratF a b = true) : CallOK Tryz.prog n_impl_ConvergentsOf [ii a, ii b] [] (fun v m_ => ∃ n c sp, Row (pl (convs (expL a b))) sp n c 2 ∧ n ≤ 1000001 ∧ v = t2 (.slice (some ⟨0, 0, none⟩) n c) (ii 0) ∧ m_ = [(pl (convs (expL a b)) ++ sp, some t_impl_Point)]) := by
  have hx_ := ratF_ok h; refine callOK_ofF good fn_impl_ConvergentsOf ?_
  conv => whnf
  all_goals (repeat' first
    | exact out_forget [_] ⟨_, _, _, hrow_, hn_, rfl, rfl⟩ rfl (okB2_spec rfl) ⟨⟨_, rfl, .plain rfl rfl (Row.all hrow_)⟩, trivial⟩ rfl rfl
    | (refine StoreK.mk rfl ?_; conv => whnf)
    | exact join_same
    | exact (by assumption : (_ : Bool) = (_ : Bool))
    | (refine br_true (by assumption) ?_; conv => whnf)
    | (refine br_false (by assumption) ?_; conv => whnf)
    | (refine br_not ?_; conv => whnf)
    | (refine br_code ?_; conv => whnf)
    | (with_reducible refine br_and ?_; conv => whnf)
    | (with_reducible refine br_or ?_; conv => whnf)
    | (refine br_eq2 ?_; conv => whnf)
    | (refine c_impl_ratioOk.call ?_; conv => whnf)
    | (refine c_impl_ratioOk.quiet ?_; conv => whnf)
    | (refine CallOK.useR (c_impl_convergents (by first | assumption | exact Row.lit rfl rfl | omega)) [] rfl rfl rfl trivial (fun v_ mem_ hR => ?_); obtain ⟨n_, c_, sp_, hrow_, hn_, rfl, rfl⟩ := hR; refine ⟨rfl, ?_⟩; conv => whnf)
    | (refine draw_auto (by decide +kernel) ?_; conv => whnf)
    | (refine draw_asg (by decide +kernel) ?_; conv => whnf)
    | (refine draw_st (by decide +kernel) ?_; conv => whnf)
    | (refine draw_call (by decide +kernel) ?_; conv => whnf)
    | (refine enter_same (loop_n 12 ?_); conv => whnf)
    | (refine next_same ?_; conv => whnf)
    | (refine mapK_row (by assumption) ?_; conv => whnf)
    | (refine mapK_plain (Plain.of rfl) ?_; conv => whnf)
    | (refine mapK_lit ?_; conv => whnf)
    | (refine br_split (fun _ => ?_) (fun _ => ?_) <;> conv => whnf)
    | exact (rfl : (_ : Value) = _)
    | (simp only [*]; exact (rfl : (_ : Value) = _))
    | (simp [*]; done))

theorem c_impl_ConvergentsOf_no {a b : Int} (h : ratF a b = false) : CallOK Tryz.prog n_impl_ConvergentsOf [ii a, ii b] [] (fun v m_ => v = t2 (.slice none 0 0) (ii 2) ∧ m_ = []) := by
  refine callOK_ofF good fn_impl_ConvergentsOf ?_
  conv => whnf
  all_goals (repeat' first
    | exact out_forget [] ⟨rfl, rfl⟩ rfl (okB2_spec rfl) trivial rfl rfl
    | (refine StoreK.mk rfl ?_; conv => whnf)
    | exact join_same
    | exact (by assumption : (_ : Bool) = (_ : Bool))
    | (refine br_true (by assumption) ?_; conv => whnf)
    | (refine br_false (by assumption) ?_; conv => whnf)
    | (refine br_not ?_; conv => whnf)
    | (refine br_code ?_; conv => whnf)
    | (with_reducible refine br_and ?_; conv => whnf)
    | (with_reducible refine br_or ?_; conv => whnf)
    | (refine br_eq2 ?_; conv => whnf)
    | (refine c_impl_ratioOk.call ?_; conv => whnf)
    | (refine c_impl_ratioOk.quiet ?_; conv => whnf)
    | (refine CallOK.useR (c_impl_convergents (by first | assumption | exact Row.lit rfl rfl | omega)) [] rfl rfl rfl trivial (fun v_ mem_ hR => ?_); obtain ⟨n_, c_, sp_, hrow_, hn_, rfl, rfl⟩ := hR; refine ⟨rfl, ?_⟩; conv => whnf)
    | (refine draw_auto (by decide +kernel) ?_; conv => whnf)
    | (refine draw_asg (by decide +kernel) ?_; conv => whnf)
    | (refine draw_st (by decide +kernel) ?_; conv => whnf)
    | (refine draw_call (by decide +kernel) ?_; conv => whnf)
    | (refine enter_same (loop_n 12 ?_); conv => whnf)
    | (refine next_same ?_; conv => whnf)
    | (refine mapK_row (by assumption) ?_; conv => whnf)
    | (refine mapK_plain (Plain.of rfl) ?_; conv => whnf)
    | (refine mapK_lit ?_; conv => whnf)
    | (refine br_split (fun _ => ?_) (fun _ => ?_) <;> conv => whnf)
    | exact (rfl : (_ : Value) = _)
    | (simp only [*]; exact (rfl : (_ : Value) = _))
    | (simp [*]; done))

theorem c_spec_ConvergentsOf_no1 {a b : Int} (h : isCoordF a = false) : CallOK Tryz.prog n_spec_ConvergentsOf [ii a, ii b] [] (fun v m_ => v = t2 (.slice none 0 0) (ii 2) ∧ m_ = []) := by
  refine callOK_ofF good fn_spec_ConvergentsOf ?_
  conv => whnf
  all_goals (repeat' first
    | exact out_forget [] ⟨rfl, rfl⟩ rfl (okB2_spec rfl) trivial rfl rfl
    | (refine StoreK.mk rfl ?_; conv => whnf)
    | exact join_same
    | exact (by assumption : (_ : Bool) = (_ : Bool))
    | (refine br_true (by assumption) ?_; conv => whnf)
    | (refine br_false (by assumption) ?_; conv => whnf)
    | (refine br_not ?_; conv => whnf)
    | (refine br_code ?_; conv => whnf)
    | (with_reducible refine br_and ?_; conv => whnf)
    | (with_reducible refine br_or ?_; conv => whnf)
    | (refine br_eq2 ?_; conv => whnf)
    | (refine c_spec_l01Fits.call ?_; conv => whnf)
    | (refine c_spec_l01Fits.quiet ?_; conv => whnf)
    | (refine c_spec_l01In.call ?_; conv => whnf)
    | (refine c_spec_l01In.quiet ?_; conv => whnf)
    | (refine CallOK.useR (c_spec_l01Expand (by first | assumption | exact Row.lit rfl rfl | omega)) [] rfl rfl rfl trivial (fun v_ mem_ hR => ?_); obtain ⟨n_, c_, sp_, hrow_, hn_, rfl, rfl⟩ := hR; refine ⟨rfl, ?_⟩; conv => whnf)
    | (refine CallOK.useR (c_spec_l01Fold (by first | assumption | exact Row.lit rfl rfl | omega) (by first | assumption | exact Row.lit rfl rfl | omega) (by first | assumption | exact Row.lit rfl rfl | omega) (by first | assumption | exact Row.lit rfl rfl | omega) (by first | assumption | exact Row.lit rfl rfl | omega)) [_] rfl rfl rfl ⟨⟨⟨_, rfl, .plain rfl (fun _ h_ => by first | exact h_ | cases h_) (by first | exact Plain.of rfl | exact Row.all (by assumption))⟩⟩, trivial⟩ (fun v_ mem_ hR => ?_); obtain ⟨rfl, rfl⟩ := hR; refine ⟨rfl, ?_⟩; conv => whnf)
    | (refine draw_auto (by decide +kernel) ?_; conv => whnf)
    | (refine draw_asg (by decide +kernel) ?_; conv => whnf)
    | (refine draw_st (by decide +kernel) ?_; conv => whnf)
    | (refine draw_call (by decide +kernel) ?_; conv => whnf)
    | (refine enter_same (loop_n 12 ?_); conv => whnf)
    | (refine next_same ?_; conv => whnf)
    | (refine mapK_row (by assumption) ?_; conv => whnf)
    | (refine mapK_plain (Plain.of rfl) ?_; conv => whnf)
    | (refine mapK_lit ?_; conv => whnf)
    | (refine br_split (fun _ => ?_) (fun _ => ?_) <;> conv => whnf)
    | exact (rfl : (_ : Value) = _)
    | (simp only [*]; exact (rfl : (_ : Value) = _))
    | (simp [*]; done))

theorem c_spec_ConvergentsOf_no2 {a b : Int} (h : isCoordF a = true) (h2 : inF b 1 1000000 = false) : CallOK Tryz.prog n_spec_ConvergentsOf [ii a, ii b] [] (fun v m_ => v = t2 (.slice none 0 0) (ii 2) ∧ m_ = []) := by
  refine callOK_ofF good fn_spec_ConvergentsOf ?_
  conv => whnf
  all_goals (repeat' first
    | exact out_forget [] ⟨rfl, rfl⟩ rfl (okB2_spec rfl) trivial rfl rfl
    | (refine StoreK.mk rfl ?_; conv => whnf)
    | exact join_same
    | exact (by assumption : (_ : Bool) = (_ : Bool))
    | (refine br_true (by assumption) ?_; conv => whnf)
    | (refine br_false (by assumption) ?_; conv => whnf)
    | (refine br_not ?_; conv => whnf)
    | (refine br_code ?_; conv => whnf)
    | (with_reducible refine br_and ?_; conv => whnf)
    | (with_reducible refine br_or ?_; conv => whnf)
    | (refine br_eq2 ?_; conv => whnf)
    | (refine c_spec_l01Fits.call ?_; conv => whnf)
    | (refine c_spec_l01Fits.quiet ?_; conv => whnf)
    | (refine c_spec_l01In.call ?_; conv => whnf)
    | (refine c_spec_l01In.quiet ?_; conv => whnf)
    | (refine CallOK.useR (c_spec_l01Expand (by first | assumption | exact Row.lit rfl rfl | omega)) [] rfl rfl rfl trivial (fun v_ mem_ hR => ?_); obtain ⟨n_, c_, sp_, hrow_, hn_, rfl, rfl⟩ := hR; refine ⟨rfl, ?_⟩; conv => whnf)
    | (refine CallOK.useR (c_spec_l01Fold (by first | assumption | exact Row.lit rfl rfl | omega) (by first | assumption | exact Row.lit rfl rfl | omega) (by first | assumption | exact Row.lit rfl rfl | omega) (by first | assumption | exact Row.lit rfl rfl | omega) (by first | assumption | exact Row.lit rfl rfl | omega)) [_] rfl rfl rfl ⟨⟨⟨_, rfl, .plain rfl (fun _ h_ => by first | exact h_ | cases h_) (by first | exact Plain.of rfl | exact Row.all (by assumption))⟩⟩, trivial⟩ (fun v_ mem_ hR => ?_); obtain ⟨rfl, rfl⟩ := hR; refine ⟨rfl, ?_⟩; conv => whnf)
    | (refine draw_auto (by decide +kernel) ?_; conv => whnf)
    | (refine draw_asg (by decide +kernel) ?_; conv => whnf)
    | (refine draw_st (by decide +kernel) ?_; conv => whnf)
    | (refine draw_call (by decide +kernel) ?_; conv => whnf)
    | (refine enter_same (loop_n 12 ?_); conv => whnf)
    | (refine next_same ?_; conv => whnf)
    | (refine mapK_row (by assumption) ?_; conv => whnf)
    | (refine mapK_plain (Plain.of rfl) ?_; conv => whnf)
    | (refine mapK_lit ?_; conv => whnf)
    | (refine br_split (fun _ => ?_) (fun _ => ?_) <;> conv => whnf)
    | exact (rfl : (_ : Value) = _)
    | (simp only [*]; exact (rfl : (_ : Value) = _))
    | (simp [*]; done))

theorem c_spec_ConvergentsOf_ok {a b : Int} (h : ratF a b = true) (h1 : isCoordF a = true) (h2 : inF b 1 1000000 = true) : CallOK Tryz.prog n_spec_ConvergentsOf [ii a, ii b] [] (fun v m_ => ∃ n c sp, Row (pl (convs (expL a b))) sp n c 2 ∧ n ≤ 1000001 ∧ v = t2 (.slice (some ⟨0, 0, none⟩) n c) (ii 0) ∧ m_ = [(pl (convs (expL a b)) ++ sp, some t_impl_Point)]) := by
  have hx_ := ratF_ok h; refine callOK_ofF good fn_spec_ConvergentsOf ?_
  conv => whnf
  all_goals (repeat' first
    | (refine enter_forget [0, 1] (loop_rec (fun (s : Int × (List Value) × (List Value) × Nat × Nat) => match s with | (i, L, sp, n, c) => [wild, wild, wild, wild, wild, wild, .slice (some ⟨0, 0, none⟩) n_ c_, .slice (some ⟨1, 0, none⟩) n c, ii i, wild, wild, wild, wild, wild, wild, wild, wild, wild, wild, wild, wild, wild, wild, wild, wild, wild, wild, wild, wild, wild, wild, wild, wild, wild, wild, wild, wild, wild, wild, wild, wild, wild, wild, wild, wild]) (fun (s : Int × (List Value) × (List Value) × Nat × Nat) => match s with | (i, L, sp, n, c) => [(il (expL a b) ++ sp_, some 2), (L ++ sp, some t_impl_Point)]) (fun (s : Int × (List Value) × (List Value) × Nat × Nat) => match s with | (i, L, sp, n, c) => (((expL a b).length : Int) + 1 - i).toNat) (fun (s : Int × (List Value) × (List Value) × Nat × Nat) => match s with | (i, L, sp, n, c) => BegI (expL a b) i L sp n c) (1, [], [], 0, 0) (BegI.start _) ?_) (tmR_rfl rfl rfl) ⟨⟨⟨_, rfl, .plain rfl rfl (by first | exact Plain.of rfl | exact Row.all (by assumption))⟩⟩, ⟨⟨_, rfl, .plain rfl rfl (by first | exact Plain.of rfl | exact Row.all (by assumption))⟩⟩, trivial⟩ rfl rfl; rintro fuel_ ⟨i, L, sp, n, c⟩ hI IH; replace hI : BegI (expL a b) i L sp n c := hI; conv => whnf)
    | exact next_forget [0, _] (IH (w64 (i + 1), _, _, _, _) (by exact hI.next (by have hl_ := row_il hrow_; have := of_decide_eq_true (by assumption); (try clear IH); omega) (by have := row_il hrow_; omega) rfl ra_) (by exact hI.mu (by have hl_ := row_il hrow_; have := of_decide_eq_true (by assumption); (try clear IH); omega) (by have := row_il hrow_; omega))) (tmR_rfl rfl rfl) ⟨⟨⟨_, rfl, .plain rfl rfl (Row.all hrow_)⟩⟩, ⟨⟨_, rfl, .plain rfl rfl (Row.all ra_)⟩⟩, trivial⟩ rfl rfl
    | (refine br_true (decide_eq_true (by have := hI.lo; have := hI.hi; have := hrow_.le (by decide); have hl_ := row_il hrow_; have := of_decide_eq_true (by assumption); clear IH; omega)) ?_; conv => whnf)
    | (refine CallOK.useR (c_spec_l01Fold (xs := expL a b) (sp := sp_) (m := i.toNat) (c := c_) (by have := hI.lo; omega) (by have hl_ := row_il hrow_; have := of_decide_eq_true (by assumption); (try clear IH); have := hI.lo; omega) (by have := row_il hrow_; omega) (fun j => fits hx_ j _) (Row.all hrow_)) [_] rfl rfl rfl ⟨⟨⟨_, rfl, .plain rfl (fun _ h_ => by cases h_) (Row.all hrow_)⟩⟩, trivial⟩ (fun v_ mem_ hR => ?_); obtain ⟨rfl, rfl⟩ := hR; refine ⟨rfl, ?_⟩; conv => whnf)
    | (show AppK _ _ _ 2 _ _ _ _ _; refine app_lit hI.row rfl rfl rfl (Plain.of rfl) rfl rfl (by decide) (by have := hI.lo; have := hI.hi; have := hI.num; have hl_ := row_il hrow_; clear IH; have : n_ ≤ 1000001 := hn_; show (_ + 1) * 16 ≤ _; omega) (by have := hI.lo; have := hI.hi; have := hI.num; have hl_ := row_il hrow_; clear IH; have : n_ ≤ 1000001 := hn_; omega) (fun hle_ spa_ ra_ => ?_) (fun hle_ ca_ spa_ ra_ => ?_) <;> conv => whnf)
    | (obtain ⟨rfl, hrow2_, hn2_⟩ := hI.fin (by have hl_ := row_il hrow_; have := of_decide_eq_false (by assumption); clear IH; omega); exact out_forget [_] ⟨_, _, _, hrow2_, by have hl_ := row_il hrow_; omega, rfl, rfl⟩ rfl (okB2_spec rfl) ⟨⟨_, rfl, .plain rfl rfl (Row.all hrow2_)⟩, trivial⟩ rfl rfl)
    | (refine StoreK.mk rfl ?_; conv => whnf)
    | exact join_same
    | exact (by assumption : (_ : Bool) = (_ : Bool))
    | (refine br_true (by assumption) ?_; conv => whnf)
    | (refine br_false (by assumption) ?_; conv => whnf)
    | (refine br_not ?_; conv => whnf)
    | (refine br_code ?_; conv => whnf)
    | (with_reducible refine br_and ?_; conv => whnf)
    | (with_reducible refine br_or ?_; conv => whnf)
    | (refine br_eq2 ?_; conv => whnf)
    | (refine c_spec_l01Fits.call ?_; conv => whnf)
    | (refine c_spec_l01Fits.quiet ?_; conv => whnf)
    | (refine c_spec_l01In.call ?_; conv => whnf)
    | (refine c_spec_l01In.quiet ?_; conv => whnf)
    | (refine CallOK.useR (c_spec_l01Expand (by first | assumption | exact Row.lit rfl rfl | omega)) [] rfl rfl rfl trivial (fun v_ mem_ hR => ?_); obtain ⟨n_, c_, sp_, hrow_, hn_, rfl, rfl⟩ := hR; refine ⟨rfl, ?_⟩; conv => whnf)
    | (refine CallOK.useR (c_spec_l01Fold (by first | assumption | exact Row.lit rfl rfl | omega) (by first | assumption | exact Row.lit rfl rfl | omega) (by first | assumption | exact Row.lit rfl rfl | omega) (by first | assumption | exact Row.lit rfl rfl | omega) (by first | assumption | exact Row.lit rfl rfl | omega)) [_] rfl rfl rfl ⟨⟨⟨_, rfl, .plain rfl (fun _ h_ => by first | exact h_ | cases h_) (by first | exact Plain.of rfl | exact Row.all (by assumption))⟩⟩, trivial⟩ (fun v_ mem_ hR => ?_); obtain ⟨rfl, rfl⟩ := hR; refine ⟨rfl, ?_⟩; conv => whnf)
    | (refine draw_auto (by decide +kernel) ?_; conv => whnf)
    | (refine draw_asg (by decide +kernel) ?_; conv => whnf)
    | (refine draw_st (by decide +kernel) ?_; conv => whnf)
    | (refine draw_call (by decide +kernel) ?_; conv => whnf)
    | (refine enter_same (loop_n 12 ?_); conv => whnf)
    | (refine next_same ?_; conv => whnf)
    | (refine mapK_row (by assumption) ?_; conv => whnf)
    | (refine mapK_plain (Plain.of rfl) ?_; conv => whnf)
    | (refine mapK_lit ?_; conv => whnf)
    | (refine br_split (fun _ => ?_) (fun _ => ?_) <;> conv => whnf)
    | exact (rfl : (_ : Value) = _)
    | (simp only [*]; exact (rfl : (_ : Value) = _))
    | (simp [*]; done))

end Go.Proofs.YtlkbfpklhncfbaaGreatDoor
end

section
/-
  Expansions of fractions lead back, and neighbouring convergents have the determinant 1 or -1. The plain law.
  Conditions: none.
-/
set_option linter.unusedVariables false
set_option linter.unusedSimpArgs false
namespace Go.Ev

def lowP (n : Int) : Bool := decide (n < 1)
/-! ### The fraction of a list -/
def frG : List Int → Int → Int → Option (Int × Int)
  | [], p, q => some (p, q)
  | c :: cs, p, q => if (isCoordF (w64 (w64 (c * p) + q)) && isCoordF p) = true then frG cs (w64 (w64 (c * p) + q)) p else none
def frB (xs : List Int) : Bool := decide (1 ≤ xs.length) && decide (xs.length ≤ 60) && xs.all isCoordF && !(xs.drop 1).any lowP
def frV (xs : List Int) : Int × Int × Int := if frB xs = true then (match frG xs.reverse 1 0 with | none => (0, 0, 3) | some (p, q) => (p, q, 0)) else (0, 0, 2)
theorem frG_app : ∀ (vs ws : List Int) (p q : Int), frG (vs ++ ws) p q = (frG vs p q).bind fun s => frG ws s.1 s.2
  | [], ws, p, q => rfl
  | c :: vs, ws, p, q => by
    rw [List.cons_append, frG, frG]
    split
    · exact frG_app vs ws _ _
    · rfl
theorem coF_iff {n : Int} : isCoordF n = true ↔ -1000000 ≤ n ∧ n ≤ 1000000 := by
  unfold isCoordF inF
  rw [Bool.and_eq_true, decide_eq_true_eq, decide_eq_true_eq]
/-- A fold whose numbers all fit. -/
theorem frG_fits : ∀ (l : List Int), (∀ j, fitsP (contL (l.drop j))) → frG l.reverse 1 0 = some (contL l)
  | [], _ => rfl
  | a :: l, h => by
    have ih := frG_fits l fun j => by have := h (j + 1); rwa [List.drop_succ_cons] at this
    have h0 := h 0
    have h1 := h 1
    rw [List.drop_zero] at h0
    rw [List.drop_succ_cons, List.drop_zero] at h1
    rw [List.reverse_cons, frG_app, ih]
    simp only [Option.bind_some, frG]
    obtain ⟨f1, f2, f3, f4⟩ := h0
    obtain ⟨g1, g2, g3, g4⟩ := h1
    simp only [contL] at f1 f2 f3 f4 ⊢
    have e : w64 (w64 (a * (contL l).1) + (contL l).2) = a * (contL l).1 + (contL l).2 := by rw [w64_add_l, w64_in (by omega) (by omega)]
    rw [e, if_pos]
    rw [Bool.and_eq_true]
    exact ⟨coF_iff.2 ⟨f1, f2⟩, coF_iff.2 ⟨g1, g2⟩⟩

/-! ### Expansions -/
theorem exl_len : ∀ (k : Nat) {p q : Int}, 0 ≤ q → q < (2 ^ k : Nat) → (expL p q).length ≤ 2 * k
  | 0, p, q, h1, h2 => by rw [expL_zero (by simp at h2; omega)]; simp
  | k + 1, p, q, h1, h2 => by
    by_cases hq : 0 < q
    · rw [expL_step hq]
      have hm1 := Int.emod_nonneg p (show q ≠ 0 by omega)
      have hm2 := Int.emod_lt_of_pos p hq
      generalize p % q = r at *
      by_cases hr : 0 < r
      · rw [expL_step hr]
        have hn1 := Int.emod_nonneg q (show r ≠ 0 by omega)
        have hn2 := Int.emod_lt_of_pos q hr
        have hn3 : r + q % r ≤ q := by
          have e := Int.mul_ediv_add_emod q r
          have hd : 1 ≤ q / r := by
            rcases (by omega : q / r ≤ 0 ∨ 1 ≤ q / r) with hd | hd
            · have : r * (q / r) ≤ r * 0 := Int.mul_le_mul_of_nonneg_left hd (by omega)
              omega
            · exact hd
          have : r * 1 ≤ r * (q / r) := Int.mul_le_mul_of_nonneg_left hd (by omega)
          omega
        have e2 : ((2 ^ (k + 1) : Nat) : Int) = 2 * ((2 ^ k : Nat) : Int) := by rw [Nat.pow_succ]; omega
        have := exl_len k (p := r) (q := q % r) hn1 (by omega)
        simp only [List.length_cons]; omega
      · rw [expL_zero hr]; simp only [List.length_cons, List.length_nil]; omega
    · rw [expL_zero hq]; simp
theorem div_pos1 {q r : Int} (hr : 0 < r) (h : r ≤ q) : 1 ≤ q / r := by
  have e := Int.mul_ediv_add_emod q r
  have := Int.emod_lt_of_pos q hr
  rcases (by omega : q / r ≤ 0 ∨ 1 ≤ q / r) with hd | hd
  · have : r * (q / r) ≤ r * 0 := Int.mul_le_mul_of_nonneg_left hd (by omega)
    omega
  · exact hd
/-- Numbers of an expansion whose denominator is not the greater one. -/
theorem exl_bd : ∀ (k : Nat) {p q : Int}, q.toNat ≤ k → q ≤ p → p ≤ 1000000 → ∀ c ∈ expL p q, 1 ≤ c ∧ c ≤ 1000000
  | 0, p, q, hk, h1, h2, c, hc => by rw [expL_zero (by omega)] at hc; cases hc
  | k + 1, p, q, hk, h1, h2, c, hc => by
    by_cases hq : 0 < q
    · rw [expL_step hq] at hc
      have hm1 := Int.emod_nonneg p (show q ≠ 0 by omega)
      have hm2 := Int.emod_lt_of_pos p hq
      rcases List.mem_cons.1 hc with rfl | hc
      · have h3 := ediv_abs (a := p) (b := q) (m := 1000000) hq (by omega) h2
        exact ⟨div_pos1 hq h1, h3.2⟩
      · exact exl_bd k (by omega) (by omega) (by omega) c hc
    · rw [expL_zero hq] at hc; cases hc
theorem contL_pos : ∀ (k : Nat) {p q : Int}, q.toNat ≤ k → 0 ≤ q → q ≤ p → 1 ≤ (contL (expL p q)).1 ∧ 0 ≤ (contL (expL p q)).2
  | 0, p, q, hk, h1, h2 => by rw [expL_zero (by omega)]; exact ⟨by decide, by decide⟩
  | k + 1, p, q, hk, h1, h2 => by
    by_cases hq : 0 < q
    · rw [expL_step hq]
      have hm1 := Int.emod_nonneg p (show q ≠ 0 by omega)
      have hm2 := Int.emod_lt_of_pos p hq
      have hd := div_pos1 hq h2
      have ih := contL_pos k (p := q) (q := p % q) (by omega) hm1 (by omega)
      simp only [contL]
      have : 1 * (contL (expL q (p % q))).1 ≤ p / q * (contL (expL q (p % q))).1 := Int.mul_le_mul_of_nonneg_right hd (by omega)
      omega
    · rw [expL_zero hq]; exact ⟨by decide, by decide⟩
theorem contL_ratio : ∀ (k : Nat) {p q : Int}, q.toNat ≤ k → 0 ≤ q → (contL (expL p q)).1 * q = (contL (expL p q)).2 * p
  | 0, p, q, hk, h1 => by
    obtain rfl : q = 0 := by omega
    rw [expL_zero (by omega)]
    simp [contL]
  | k + 1, p, q, hk, h1 => by
    by_cases hq : 0 < q
    · rw [expL_step hq]
      have hm1 := Int.emod_nonneg p (show q ≠ 0 by omega)
      have hm2 := Int.emod_lt_of_pos p hq
      have ih := contL_ratio k (p := q) (q := p % q) (by omega) hm1
      have e := Int.mul_ediv_add_emod p q
      simp only [contL]
      generalize (contL (expL q (p % q))).1 = N at *
      generalize (contL (expL q (p % q))).2 = D at *
      generalize p / q = a at *
      generalize p % q = r at *
      subst e
      grind
    · obtain rfl : q = 0 := by omega
      rw [expL_zero (by omega)]
      simp [contL]
structure BackX (a b P Q : Int) : Prop where
  v : frV (expL a b) = (P, Q, 0)
  eq : P * b = Q * a
  pos : 1 ≤ Q
  bp : -1000000 ≤ P ∧ P ≤ 1000000
  bq : Q ≤ 1000000
theorem exp_back {a b : Int} (h : ExpOk a b) (hb : 1 ≤ b) : ∃ P Q, BackX a b P Q := by
  have hlo := h.lo; have hhi := h.hi; have hb1 := h.b1
  have hq : 0 < b := by omega
  have hm1 := Int.emod_nonneg a (show b ≠ 0 by omega)
  have hm2 := Int.emod_lt_of_pos a hq
  have hfit : ∀ j, fitsP (contL ((expL a b).drop j)) := fun j => by
    have := fits h j (expL a b).length
    rwa [List.take_of_length_le (Nat.le_refl _)] at this
  have hrest := exl_bd _ (p := b) (q := a % b) (Nat.le_refl _) (by omega) hb1
  have hB : frB (expL a b) = true := by
    have h20 : ((2 ^ 20 : Nat) : Int) = 1048576 := by decide
    have hl := exl_len 20 (p := a) (q := b) (by omega) (by rw [h20]; omega)
    have h0 := ediv_abs (a := a) (b := b) (m := 1000000) hq (by omega) hhi
    have h1 : 1 ≤ (expL a b).length := by rw [expL_step hq]; simp
    simp only [frB, Bool.and_eq_true, decide_eq_true_eq, List.all_eq_true, Bool.not_eq_true', List.any_eq_false]
    refine ⟨⟨⟨h1, by omega⟩, fun x hx => ?_⟩, fun x hx => ?_⟩
    · rw [expL_step hq] at hx
      rcases List.mem_cons.1 hx with rfl | hx
      · exact coF_iff.2 h0
      · have := hrest x hx
        exact coF_iff.2 ⟨by omega, by omega⟩
    · rw [expL_step hq, List.drop_succ_cons, List.drop_zero] at hx
      have := hrest x hx
      simp only [lowP, decide_eq_true_eq]; omega
  have hf0 := hfit 0
  rw [List.drop_zero] at hf0
  obtain ⟨f1, f2, f3, f4⟩ := hf0
  refine ⟨(contL (expL a b)).1, (contL (expL a b)).2, ?_, contL_ratio _ (Nat.le_refl _) (by omega), ?_, ⟨f1, f2⟩, f4⟩
  · unfold frV
    rw [if_pos hB, frG_fits _ hfit]
  · rw [expL_step hq]
    simp only [contL]
    exact (contL_pos _ (p := b) (q := a % b) (Nat.le_refl _) hm1 (by omega)).1

/-! ### Neighbouring convergents -/
theorem fwd_det : ∀ (n : Nat) (l : List Int), l.length = n → (fwd l).1.1 * (fwd l).2.2 - (fwd l).1.2 * (fwd l).2.1 = 1 ∨ (fwd l).1.1 * (fwd l).2.2 - (fwd l).1.2 * (fwd l).2.1 = -1
  | 0, l, h => by
    obtain rfl := List.length_eq_zero_iff.1 h
    left; decide
  | n + 1, l, h => by
    rcases List.eq_nil_or_concat l with rfl | ⟨m, a, rfl⟩
    · simp at h
    · rw [List.concat_eq_append] at *
      have ih := fwd_det n m (by simpa using h)
      rw [fwd_snoc]
      generalize fwd m = s at *
      obtain ⟨⟨x, y⟩, ⟨u, v⟩⟩ := s
      simp only at ih ⊢
      have e : (u + a * x) * y - (v + a * y) * x = -(x * v - y * u) := by grind
      rw [e]
      omega
theorem conv_at {l : List Int} {i : Nat} (h : i < l.length) : (convs l).getD i (0, 0) = contL (l.take (i + 1)) := by simp [convs, List.getD, h]
theorem conv_det {l : List Int} {i : Nat} (h : i + 1 < l.length) :
    ((convs l).getD i (0, 0)).1 * ((convs l).getD (i + 1) (0, 0)).2 - ((convs l).getD i (0, 0)).2 * ((convs l).getD (i + 1) (0, 0)).1 = 1 ∨
    ((convs l).getD i (0, 0)).1 * ((convs l).getD (i + 1) (0, 0)).2 - ((convs l).getD i (0, 0)).2 * ((convs l).getD (i + 1) (0, 0)).1 = -1 := by
  rw [conv_at (by omega), conv_at h]
  have e : l.take (i + 1 + 1) = l.take (i + 1) ++ [l.getD (i + 1) 0] := take_succ_getD h
  have h1 := fwd_det _ (l.take (i + 1)) rfl
  have n1 := fwd_now (l.take (i + 1))
  have n2 := fwd_now (l.take (i + 1 + 1))
  rw [e, fwd_snoc] at n2
  rw [← e] at n2
  rw [← n1, ← n2]
  generalize fwd (l.take (i + 1)) = s at *
  obtain ⟨⟨x, y⟩, ⟨u, v⟩⟩ := s
  simp only at h1 ⊢
  generalize l.getD (i + 1) 0 = a at *
  have e2 : x * (v + a * y) - y * (u + a * x) = x * v - y * u := by grind
  rw [e2]
  exact h1
/-- Points that follow each other among the convergents. -/
theorem conv_next {a b : Int} (h : ExpOk a b) {i : Nat} (hi : i + 1 < (expL a b).length) :
    isPtF ((convs (expL a b)).getD i (0, 0)).1 ((convs (expL a b)).getD i (0, 0)).2 = true ∧ isPtF ((convs (expL a b)).getD (i + 1) (0, 0)).1 ((convs (expL a b)).getD (i + 1) (0, 0)).2 = true ∧
    (detF ((convs (expL a b)).getD i (0, 0)).1 ((convs (expL a b)).getD i (0, 0)).2 ((convs (expL a b)).getD (i + 1) (0, 0)).1 ((convs (expL a b)).getD (i + 1) (0, 0)).2 = 1 ∨
     detF ((convs (expL a b)).getD i (0, 0)).1 ((convs (expL a b)).getD i (0, 0)).2 ((convs (expL a b)).getD (i + 1) (0, 0)).1 ((convs (expL a b)).getD (i + 1) (0, 0)).2 = -1) := by
  have hd := conv_det hi
  have f1 := fits h 0 (i + 1)
  have f2 := fits h 0 (i + 1 + 1)
  rw [List.drop_zero, ← conv_at (by omega)] at f1
  rw [List.drop_zero, ← conv_at hi] at f2
  obtain ⟨a1, a2, a3, a4⟩ := f1
  obtain ⟨b1, b2, b3, b4⟩ := f2
  generalize ((convs (expL a b)).getD i (0, 0)).1 = x at *
  generalize ((convs (expL a b)).getD i (0, 0)).2 = y at *
  generalize ((convs (expL a b)).getD (i + 1) (0, 0)).1 = z at *
  generalize ((convs (expL a b)).getD (i + 1) (0, 0)).2 = w at *
  refine ⟨isPtF_iff.2 (by omega), isPtF_iff.2 (by omega), ?_⟩
  have m1 := mul_abs (x := x) (y := w) (m := 1000000) (n := 1000000) (by omega) (by omega) (by omega) (by omega) (by omega)
  have m2 := mul_abs (x := y) (y := z) (m := 1000000) (n := 1000000) (by omega) (by omega) (by omega) (by omega) (by omega)
  have e : detF x y z w = x * w - y * z := by
    unfold detF
    rw [w64_in (n := x * w) (by omega) (by omega), w64_in (n := y * z) (by omega) (by omega), w64_in (by omega) (by omega)]
  rw [e]
  exact hd

/-! ### The reference's fold -/
/-- The numbers behind the i-th one are reckoned. -/
structure FrI (xs : List Int) (p q i : Int) : Prop where
  lo : -1 ≤ i
  hi : i + 1 < (xs.length : Int)
  st : frG (xs.drop (i + 1).toNat).reverse 1 0 = some (p, q)
theorem FrI.start {xs : List Int} (h : frB xs = true) : FrI xs (xs.getD (w64 ((xs.length : Int) - 1)).toNat 0) 1 (w64 ((xs.length : Int) - 2)) := by
  simp only [frB, Bool.and_eq_true, decide_eq_true_eq, List.all_eq_true] at h
  obtain ⟨⟨⟨h1, h2⟩, h3⟩, -⟩ := h
  rw [w64_in (by omega) (by omega), w64_in (by omega) (by omega)]
  refine ⟨by omega, by omega, ?_⟩
  have e1 : ((xs.length : Int) - 2 + 1).toNat = xs.length - 1 := by omega
  have e2 : ((xs.length : Int) - 1).toNat = xs.length - 1 := by omega
  rw [e1, e2]
  have hl : xs.length - 1 < xs.length := by omega
  have h4 := coF_iff.1 (h3 _ (List.getElem_mem hl))
  rw [List.drop_eq_getElem_cons hl, List.drop_of_length_le (by omega)]
  have e3 : xs.getD (xs.length - 1) 0 = xs[xs.length - 1] := by simp [List.getD, hl]
  rw [e3]
  generalize xs[xs.length - 1] = v at *
  have e4 : w64 (w64 (v * 1) + 0) = v := by rw [Int.mul_one, w64_in (n := v) (by omega) (by omega), Int.add_zero, w64_in (by omega) (by omega)]
  show frG [v] 1 0 = _
  rw [frG, e4, if_pos, frG]
  rw [Bool.and_eq_true]
  exact ⟨coF_iff.2 h4, by decide⟩
theorem FrI.step {xs : List Int} {p q i : Int} (h : FrI xs p q i) (hi : decide (i ≥ 0) = true) : frG (xs.drop i.toNat).reverse 1 0 = frG [xs.getD i.toNat 0] p q := by
  have hi := of_decide_eq_true hi
  have h1 := h.hi
  have hl : i.toNat < xs.length := by omega
  rw [List.drop_eq_getElem_cons hl, List.reverse_cons, frG_app, ← show (i + 1).toNat = i.toNat + 1 by omega, h.st]
  have e3 : xs.getD i.toNat 0 = xs[i.toNat] := by simp [List.getD, hl]
  rw [e3]
  rfl
theorem FrI.next {xs : List Int} {p q i : Int} (h : FrI xs p q i) (hl : xs.length ≤ 60) (hi : decide (i ≥ 0) = true) (h1 : isCoordF (w64 (w64 (xs.getD i.toNat 0 * p) + q)) = true) (h2 : isCoordF p = true) : FrI xs (w64 (w64 (xs.getD i.toNat 0 * p) + q)) p (w64 (i - 1)) := by
  have hs := h.step hi
  have hi := of_decide_eq_true hi
  have h3 := h.hi
  rw [w64_in (n := i - 1) (by omega) (by omega)]
  refine ⟨by omega, by omega, ?_⟩
  rw [show i - 1 + 1 = i by omega, hs, frG, h1, h2]; rfl
theorem FrI.mu {xs : List Int} {p q i : Int} (h : FrI xs p q i) (hl : xs.length ≤ 60) (hi : decide (i ≥ 0) = true) : (w64 (i - 1) + 1).toNat < (i + 1).toNat := by
  have hi := of_decide_eq_true hi
  have h3 := h.hi
  rw [w64_in (n := i - 1) (by omega) (by omega)]; omega
theorem FrI.fin {xs : List Int} {p q i : Int} (h : FrI xs p q i) (hi : decide (i ≥ 0) = false) : frG xs.reverse 1 0 = some (p, q) := by
  have hi := of_decide_eq_false hi
  have h1 := h.lo
  have h2 := h.st
  rwa [show (i + 1).toNat = 0 by omega, List.drop_zero] at h2
theorem FrI.bad {xs : List Int} {p q i : Int} (h : FrI xs p q i) (hi : decide (i ≥ 0) = true) (hb : isCoordF (w64 (w64 (xs.getD i.toNat 0 * p) + q)) = false ∨ isCoordF p = false) : frG xs.reverse 1 0 = none := by
  have hs := h.step hi
  have e : xs.reverse = (xs.drop i.toNat).reverse ++ (xs.take i.toNat).reverse := by rw [← List.reverse_append, List.take_append_drop]
  rw [e, frG_app, hs, frG, if_neg]
  · rfl
  · rw [Bool.and_eq_true]
    rcases hb with hb | hb <;> rw [hb] <;> simp
/-- The reference's look at a list: the first i numbers are good. -/
structure FlsI (xs : List Int) (i : Int) : Prop where
  lo : 0 ≤ i
  hi : i ≤ xs.length
  ok : (xs.take i.toNat).all isCoordF = true ∧ ((xs.take i.toNat).drop 1).any lowP = false
theorem FlsI.start (xs : List Int) : FlsI xs 0 := ⟨Int.le_refl _, by omega, rfl, rfl⟩
theorem FlsI.next {xs : List Int} {i : Int} (h : FlsI xs i) (hl : xs.length ≤ 1048576) (hi : decide (i < (xs.length : Int)) = true) (h1 : isCoordF (xs.getD i.toNat 0) = true) (h2 : decide (i > 0) = false ∨ decide (xs.getD i.toNat 0 < 1) = false) : FlsI xs (w64 (i + 1)) := by
  have hi := of_decide_eq_true hi
  have h3 := h.lo
  rw [w64_in (by omega) (by omega)]
  have hk : i.toNat < xs.length := by omega
  have e : xs.take (i + 1).toNat = xs.take i.toNat ++ [xs.getD i.toNat 0] := by rw [show (i + 1).toNat = i.toNat + 1 by omega]; exact take_succ_getD hk
  refine ⟨by omega, by omega, ?_, ?_⟩
  · rw [e, List.all_append, h.ok.1, List.all_cons, h1]; rfl
  · rw [e]
    by_cases h0 : i = 0
    · subst h0; simp
    · rw [List.drop_append_of_le_length (by rw [List.length_take]; omega), List.any_append, h.ok.2]
      rcases h2 with h2 | h2
      · have := of_decide_eq_false h2; omega
      · rw [List.any_cons, lowP, h2]; rfl
theorem FlsI.bad {xs : List Int} {i : Int} (h : FlsI xs i) (hi : decide (i < (xs.length : Int)) = true) (hb : isCoordF (xs.getD i.toNat 0) = false ∨ (decide (i > 0) = true ∧ decide (xs.getD i.toNat 0 < 1) = true)) : frB xs = false := by
  have hi := of_decide_eq_true hi
  have h3 := h.lo
  have hk : i.toNat < xs.length := by omega
  have e : xs.getD i.toNat 0 = xs[i.toNat] := by simp [List.getD, hk]
  rw [e] at hb
  cases hf : frB xs
  · rfl
  · exfalso
    simp only [frB, Bool.and_eq_true, decide_eq_true_eq, List.all_eq_true, Bool.not_eq_true', List.any_eq_false] at hf
    rcases hb with hb | ⟨h0, hb⟩
    · have := hf.1.2 _ (List.getElem_mem hk)
      rw [hb] at this; cases this
    · have h0 := of_decide_eq_true h0
      refine hf.2 xs[i.toNat] ?_ hb
      have : (xs.drop 1)[i.toNat - 1]'(by rw [List.length_drop]; omega) = xs[i.toNat] := by
        rw [List.getElem_drop]
        congr 1
        omega
      rw [← this]
      exact List.getElem_mem _
theorem FlsI.fin {xs : List Int} {i : Int} (h : FlsI xs i) (hi : decide (i < (xs.length : Int)) = false) : frB xs = (decide (1 ≤ xs.length) && decide (xs.length ≤ 60)) := by
  have hi := of_decide_eq_false hi
  have h2 := h.hi
  obtain ⟨h3, h4⟩ := h.ok
  rw [List.take_of_length_le (by omega)] at h3 h4
  unfold frB
  rw [h3, h4]
  simp
theorem fls_end {xs : List Int} {i : Int} (h : FlsI xs i) (hi : decide (i < (xs.length : Int)) = false) : frB xs = (decide ((xs.length : Int) ≥ 1) && decide ((xs.length : Int) ≤ 60)) := by
  rw [h.fin hi]
  congr 1
  · exact decide_eq_decide.2 (by omega)
  · exact decide_eq_decide.2 (by omega)
theorem fls_end1 {xs : List Int} {i : Int} (h : FlsI xs i) (hi : decide (i < (xs.length : Int)) = false) (h1 : decide ((xs.length : Int) ≥ 1) = false) : frB xs = false := by
  rw [fls_end h hi, h1]; rfl
theorem fls_end2 {xs : List Int} {i : Int} (h : FlsI xs i) (hi : decide (i < (xs.length : Int)) = false) (h1 : decide ((xs.length : Int) ≥ 1) = true) : frB xs = decide ((xs.length : Int) ≤ 60) := by
  rw [fls_end h hi, h1]; rfl
theorem frB_len {xs : List Int} (h : frB xs = true) : 1 ≤ xs.length ∧ xs.length ≤ 60 := by
  simp only [frB, Bool.and_eq_true, decide_eq_true_eq] at h
  exact h.1.1
theorem fold_last {xs : List Int} (h : 1 ≤ xs.length ∧ xs.length ≤ 60) : (w64 ((xs.length : Int) - 1)).toNat < xs.length := by
  rw [w64_in (by omega) (by omega)]; omega
theorem fold_no {α : Type} {o : Option α} {x : α} (h1 : o = none) (h2 : o = some x) : False := by rw [h1] at h2; cases h2
end Go.Ev
end
