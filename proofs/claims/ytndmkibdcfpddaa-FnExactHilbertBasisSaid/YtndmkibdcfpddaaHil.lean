/-
  Hilbert bases of cones: the spots that are no sums, from any list that generates. The plain law.
  Conditions: none.
-/
import Derived.Test.YtndmkibdcfpddaaBof
import Derived.Test.YtndmkibdcfpddaaFnT
set_option linter.unusedVariables false
set_option linter.unusedSimpArgs false
namespace Go.Ev

def sub3 (x y : S3) : S3 := (x.1 - y.1, x.2.1 - y.2.1, x.2.2 - y.2.2)
def nn3 (x : S3) : Bool := decide (x.1 ≥ 0) && decide (x.2.1 ≥ 0) && decide (x.2.2 ≥ 0)
def NN (x : S3) : Prop := 0 ≤ x.1 ∧ 0 ≤ x.2.1 ∧ 0 ≤ x.2.2
theorem nn3_iff {x : S3} : nn3 x = true ↔ NN x := by unfold nn3 NN; simp [and_assoc]
theorem s3_ext {x y : S3} (h1 : x.1 = y.1) (h2 : x.2.1 = y.2.1) (h3 : x.2.2 = y.2.2) : x = y := Prod.ext h1 (Prod.ext h2 h3)
abbrev z3 : S3 := (0, 0, 0)

/-! ### The walk ends only where it is closed -/
section
variable {nx : S3 → Nat → S3}
theorem put1_pre (L : List S3) (y : S3) : L <+: put1 L y := by
  unfold put1
  split
  · exact List.prefix_refl _
  · exact List.prefix_append _ _
theorem put1_mem (L : List S3) (y : S3) : y ∈ put1 L y := by
  unfold put1
  split
  · assumption
  · simp
theorem puts_pre (n : Nat) (L : List S3) : ∀ j, L <+: puts nx n L j
  | 0 => List.prefix_refl _
  | j + 1 => (puts_pre n L j).trans (put1_pre _ _)
theorem puts_mono (n : Nat) (L : List S3) {j : Nat} : ∀ m, j ≤ m → puts nx n L j <+: puts nx n L m
  | 0, h => by have : j = 0 := by omega
               subst this; exact List.prefix_refl _
  | m + 1, h => by
    by_cases e : j = m + 1
    · subst e; exact List.prefix_refl _
    · exact (puts_mono n L m (by omega)).trans (put1_pre _ _)
theorem pre_getD {L M : List S3} (h : L <+: M) {n : Nat} (hn : n < L.length) : M.getD n z3 = L.getD n z3 := by
  obtain ⟨t, rfl⟩ := h
  simp [List.getD, List.getElem?_append_left hn]
theorem puts_has (n : Nat) (L : List S3) (hn : n < L.length) {j : Nat} (hj : j < 3) : nx (L.getD n z3) j ∈ puts nx n L 3 := by
  have h1 : nx (L.getD n z3) j ∈ puts nx n L (j + 1) := by
    rw [← pre_getD (puts_pre (nx := nx) n L j) hn]
    exact put1_mem _ _
  exact (puts_mono n L 3 (by omega)).subset h1
theorem bfs_closed : ∀ (t n : Nat) (L : List S3), L <+: bfs nx t n L ∧ ((bfs nx t n L).length ≤ t + n → ∀ i, n ≤ i → i < (bfs nx t n L).length → ∀ j, j < 3 → nx ((bfs nx t n L).getD i z3) j ∈ bfs nx t n L)
  | 0, n, L => ⟨List.prefix_refl _, fun h i hi hl => by rw [bfs] at h hl; omega⟩
  | t + 1, n, L => by
    rw [bfs]
    split
    · rename_i hn
      obtain ⟨h1, h2⟩ := bfs_closed t (n + 1) (puts nx n L 3)
      refine ⟨(puts_pre n L 3).trans h1, fun h i hi hl j hj => ?_⟩
      by_cases e : i = n
      · subst e
        have hn2 := Nat.lt_of_lt_of_le hn (puts_len nx i L 3)
        rw [pre_getD h1 hn2, pre_getD (puts_pre i L 3) hn]
        exact h1.subset (puts_has i L hn hj)
      · exact h2 (by omega) i (by omega) hl j hj
    · rename_i hn
      exact ⟨List.prefix_refl _, fun h i hi hl => absurd hl (by omega)⟩
end
section
variable {k : Cn}
theorem boxL_zero (k : Cn) : z3 ∈ boxL k := (bfs_closed (nx := k.nxS) (bigN + 1) 0 [z3]).1.subset (List.mem_cons_self ..)
theorem boxL_next (hk : k.Ok) {x : S3} (hx : x ∈ boxL k) {j : Nat} (hj : j < 3) : k.nxS x j ∈ boxL k := by
  obtain ⟨i, hi, rfl⟩ := List.mem_iff_getElem.1 hx
  have hl : (boxL k).length ≤ bigN := (boxL_ok hk).len hk
  have := (bfs_closed (nx := k.nxS) (bigN + 1) 0 [z3]).2 (Nat.le_trans hl (by omega)) i (Nat.zero_le _) hi j hj
  rw [show (bfs k.nxS (bigN + 1) 0 [z3]).getD i z3 = (boxL k)[i] by
    show (boxL k).getD i z3 = _
    simp [List.getD, List.getElem?_eq_getElem hi]] at this
  exact this

/-! ### Everything folds into the box -/
theorem Cn.own_mul (k : Cn) (m : Int) (x : S3) : k.own (mul3 m x) = mul3 m (k.own x) := by
  simp only [Cn.own, mul3, volP, Prod.mk.injEq]
  refine ⟨?_, ?_, ?_⟩ <;> grind
theorem sub3_eq (x y : S3) : sub3 x y = add3 x (mul3 (-1) y) := s3_ext (by simp [sub3, add3, mul3]; omega) (by simp [sub3, add3, mul3]; omega) (by simp [sub3, add3, mul3]; omega)
theorem Cn.own_sub (k : Cn) (x y : S3) : k.own (sub3 x y) = sub3 (k.own x) (k.own y) := by
  rw [sub3_eq, Cn.own_add, Cn.own_mul, ← sub3_eq]
theorem Cn.fold_of (hk : k.Ok) {x y : S3} (h : mod3 k.D (k.own x) = mod3 k.D (k.own y)) : k.fold x = k.fold y :=
  Cn.own_inj hk (by rw [Cn.own_fold, Cn.own_fold, h])
theorem mod3_add (d : Int) (x y : S3) : mod3 d (add3 (mod3 d x) y) = mod3 d (add3 x y) := by
  simp only [mod3, add3, Prod.mk.injEq, Int.emod_add_emod, and_self]
theorem Cn.fold_add (hk : k.Ok) (x y : S3) : k.fold (add3 (k.fold x) y) = k.fold (add3 x y) := by
  refine Cn.fold_of hk ?_
  rw [Cn.own_add, Cn.own_add, Cn.own_fold, mod3_add]
theorem fold_step (hk : k.Ok) {x : S3} (h : k.fold x ∈ boxL k) {j : Nat} (hj : j < 3) : k.fold (add3 x (unit3 j)) ∈ boxL k := by
  have := boxL_next hk h hj
  unfold Cn.nxS at this
  rwa [Cn.fold_add hk] at this
theorem Cn.fold_box (hk : k.Ok) {x : S3} (h : k.Box (k.own x)) : k.fold x = x := by
  refine Cn.own_inj hk ?_
  rw [Cn.own_fold]
  obtain ⟨⟨a1, a2⟩, ⟨b1, b2⟩, ⟨c1, c2⟩⟩ := h
  exact s3_ext (Int.emod_eq_of_lt a1 a2) (Int.emod_eq_of_lt b1 b2) (Int.emod_eq_of_lt c1 c2)
theorem fold_nat (hk : k.Ok) : ∀ (a b c : Nat), k.fold ((a : Int), (b : Int), (c : Int)) ∈ boxL k
  | 0, 0, 0 => by
    have : k.fold (((0 : Nat) : Int), ((0 : Nat) : Int), ((0 : Nat) : Int)) = z3 := Cn.fold_box hk (Cn.box_zero hk)
    rw [this]; exact boxL_zero k
  | a + 1, b, c => by
    have := fold_step hk (fold_nat hk a b c) (j := 0) (by omega)
    rwa [show add3 ((a : Int), (b : Int), (c : Int)) (unit3 0) = (((a + 1 : Nat) : Int), (b : Int), (c : Int)) from s3_ext (by simp [add3, unit3]) (by simp [add3, unit3]) (by simp [add3, unit3])] at this
  | 0, b + 1, c => by
    have := fold_step hk (fold_nat hk 0 b c) (j := 1) (by omega)
    rwa [show add3 (((0 : Nat) : Int), (b : Int), (c : Int)) (unit3 1) = (((0 : Nat) : Int), ((b + 1 : Nat) : Int), (c : Int)) from s3_ext (by simp [add3, unit3]) (by simp [add3, unit3]) (by simp [add3, unit3])] at this
  | 0, 0, c + 1 => by
    have := fold_step hk (fold_nat hk 0 0 c) (j := 2) (by omega)
    rwa [show add3 (((0 : Nat) : Int), ((0 : Nat) : Int), (c : Int)) (unit3 2) = (((0 : Nat) : Int), ((0 : Nat) : Int), ((c + 1 : Nat) : Int)) from s3_ext (by simp [add3, unit3]) (by simp [add3, unit3]) (by simp [add3, unit3])] at this
theorem fold_mem (hk : k.Ok) (x : S3) : k.fold x ∈ boxL k := by
  have hp := Cn.D_pos hk
  have up : ∀ a : Int, ∃ n : Nat, (n : Int) = a + k.D * (a.natAbs : Int) := by
    intro a
    have : (a.natAbs : Int) ≤ k.D * (a.natAbs : Int) := by
      have := Int.mul_le_mul_of_nonneg_right hp (show 0 ≤ (a.natAbs : Int) by omega)
      omega
    exact ⟨(a + k.D * (a.natAbs : Int)).toNat, by omega⟩
  obtain ⟨a, ha⟩ := up x.1
  obtain ⟨b, hb⟩ := up x.2.1
  obtain ⟨c, hc⟩ := up x.2.2
  have e : ((a : Int), (b : Int), (c : Int)) = add3 x (mul3 k.D ((x.1.natAbs : Int), (x.2.1.natAbs : Int), (x.2.2.natAbs : Int))) := s3_ext ha hb hc
  have := fold_nat hk a b c
  rw [e] at this
  rw [Cn.fold_of hk (x := x) (y := add3 x (mul3 k.D ((x.1.natAbs : Int), (x.2.1.natAbs : Int), (x.2.2.natAbs : Int))))]
  · exact this
  · rw [Cn.own_add, Cn.own_mul]
    simp [mod3, add3, mul3, Int.add_mul_emod_self_left]
/-- All spots with coordinates below the determinant are in the list. -/
theorem box_mem (hk : k.Ok) {x : S3} (h : k.Box (k.own x)) : x ∈ boxL k := by
  have := fold_mem hk x
  rwa [Cn.fold_box hk h] at this
theorem boxL_iff (hk : k.Ok) {x : S3} : x ∈ boxL k ↔ k.Box (k.own x) := ⟨fun h => (boxL_ok hk).box x h, box_mem hk⟩

/-! ### Spots that are no sums -/
def Cn.Mon (k : Cn) (p : S3) : Prop := NN (k.own p)
def Cn.Irr (k : Cn) (p : S3) : Prop := k.Mon p ∧ p ≠ z3 ∧ ∀ q r, k.Mon q → k.Mon r → q ≠ z3 → r ≠ z3 → add3 q r ≠ p
structure Cn.Gen (k : Cn) (G : List S3) : Prop where
  mon : ∀ p ∈ G, k.Mon p ∧ p ≠ z3
  gen : ∀ m, k.Mon m → m ≠ z3 → ∃ q ∈ G, k.Mon (sub3 m q)
theorem Cn.own_ne (hk : k.Ok) {p : S3} (h : p ≠ z3) : k.own p ≠ z3 := fun e => h (Cn.own_inj hk (by rw [e, Cn.own_zero]))
theorem Cn.mon_add {p q : S3} (h1 : k.Mon p) (h2 : k.Mon q) : k.Mon (add3 p q) := by
  unfold Cn.Mon NN at *
  rw [Cn.own_add]
  simp only [add3]
  omega
theorem nn_sum {x y : S3} (h1 : NN x) (h2 : NN y) (h : add3 x y = z3) : x = z3 := by
  unfold NN at h1 h2
  simp only [add3, Prod.mk.injEq] at h
  exact s3_ext (show x.1 = 0 by omega) (show x.2.1 = 0 by omega) (show x.2.2 = 0 by omega)
theorem irr_iff (hk : k.Ok) {G : List S3} (h : k.Gen G) (p : S3) : (p ∈ G ∧ ∀ q ∈ G, q ≠ p → ¬ k.Mon (sub3 p q)) ↔ k.Irr p := by
  constructor
  · rintro ⟨hp, hq⟩
    obtain ⟨m, z⟩ := h.mon p hp
    refine ⟨m, z, fun q r mq mr zq zr e => ?_⟩
    obtain ⟨q', hq', m'⟩ := h.gen q mq zq
    have e2 : sub3 p q' = add3 r (sub3 q q') := by
      rw [← e]
      exact s3_ext (by simp [sub3, add3]; omega) (by simp [sub3, add3]; omega) (by simp [sub3, add3]; omega)
    refine hq q' hq' (fun e3 => ?_) (by rw [e2]; exact Cn.mon_add mr m')
    subst e3
    have e4 : add3 r (sub3 q q') = z3 := by
      rw [← e]
      exact s3_ext (by simp [sub3, add3]; omega) (by simp [sub3, add3]; omega) (by simp [sub3, add3]; omega)
    have e5 : add3 (k.own r) (k.own (sub3 q q')) = z3 := by rw [← Cn.own_add, e4, Cn.own_zero]
    exact Cn.own_ne hk zr (nn_sum mr m' e5)
  · rintro ⟨m, z, hn⟩
    obtain ⟨q, hq, mq⟩ := h.gen p m z
    have hpq : q = p := by
      refine Classical.byContradiction fun hne => ?_
      refine hn q (sub3 p q) (h.mon q hq).1 mq (h.mon q hq).2 (fun e => hne ?_) (s3_ext (by simp [sub3, add3]; omega) (by simp [sub3, add3]; omega) (by simp [sub3, add3]; omega))
      simp only [sub3, Prod.mk.injEq] at e
      exact s3_ext (by omega) (by omega) (by omega)
    subst hpq
    refine ⟨hq, fun r hr hne mr => ?_⟩
    refine hn r (sub3 q r) (h.mon r hr).1 mr (h.mon r hr).2 (fun e => hne ?_) (s3_ext (by simp [sub3, add3]; omega) (by simp [sub3, add3]; omega) (by simp [sub3, add3]; omega))
    simp only [sub3, Prod.mk.injEq] at e
    exact s3_ext (by omega) (by omega) (by omega)
end

/-! ### Rays -/
def Cn.ray (k : Cn) : Nat → S3
  | 0 => (k.a, k.b, k.c)
  | 1 => (k.d, k.e, k.f)
  | _ => (k.g, k.h, k.i)
def ln3 (x : S3) : Int := lnF x.1 x.2.1 x.2.2
def dv3 (x : S3) : S3 := (w64 (x.1.tdiv (ln3 x)), w64 (x.2.1.tdiv (ln3 x)), w64 (x.2.2.tdiv (ln3 x)))
@[reducible] def Cn.prm (k : Cn) : Cn := ⟨(dv3 (k.ray 0)).1, (dv3 (k.ray 0)).2.1, (dv3 (k.ray 0)).2.2, (dv3 (k.ray 1)).1, (dv3 (k.ray 1)).2.1, (dv3 (k.ray 1)).2.2, (dv3 (k.ray 2)).1, (dv3 (k.ray 2)).2.1, (dv3 (k.ray 2)).2.2⟩
section
variable {k : Cn}
theorem Cn.own_ray (k : Cn) (j : Nat) : k.own (k.ray j) = mul3 k.D (unit3 j) := by
  rw [← Cn.own_sum]
  congr 1
  match j with
  | 0 => simp [Cn.ray, unit3, Cn.sum]
  | 1 => simp [Cn.ray, unit3, Cn.sum]
  | _ + 2 => simp [Cn.ray, unit3, Cn.sum]
theorem Cn.ray_sm (hk : k.Ok) (j : Nat) : (-20 ≤ (k.ray j).1 ∧ (k.ray j).1 ≤ 20) ∧ (-20 ≤ (k.ray j).2.1 ∧ (k.ray j).2.1 ≤ 20) ∧ (-20 ≤ (k.ray j).2.2 ∧ (k.ray j).2.2 ≤ 20) := by
  match j with
  | 0 => exact ⟨hk.ba, hk.bb, hk.bc⟩
  | 1 => exact ⟨hk.bd, hk.be, hk.bf⟩
  | _ + 2 => exact ⟨hk.bg, hk.bh, hk.bi⟩
theorem unit3_ne (j : Nat) : unit3 j ≠ z3 := by
  match j with
  | 0 => decide
  | 1 => decide
  | _ + 2 => exact (by decide : ((0 : Int), (0 : Int), (1 : Int)) ≠ z3)
theorem unit3_nn (j : Nat) : NN (unit3 j) := by
  match j with
  | 0 => exact ⟨by decide, by decide, by decide⟩
  | 1 => exact ⟨by decide, by decide, by decide⟩
  | _ + 2 => exact ⟨by simp [unit3], by simp [unit3], by simp [unit3]⟩
theorem mul3_ne {d : Int} (h : d ≠ 0) {x : S3} (hx : x ≠ z3) : mul3 d x ≠ z3 := fun e => by
  simp only [mul3, Prod.mk.injEq, Int.mul_eq_zero] at e
  exact hx (s3_ext (by simpa [h] using e.1) (by simpa [h] using e.2.1) (by simpa [h] using e.2.2))
theorem Cn.ray_ne (hk : k.Ok) (j : Nat) : k.ray j ≠ z3 := fun e => by
  have h := Cn.own_ray k j
  rw [e, Cn.own_zero] at h
  exact mul3_ne (by have := Cn.D_pos hk; omega) (unit3_ne j) h.symm
theorem mul3_nn {d : Int} (h : 0 ≤ d) {x : S3} (hx : NN x) : NN (mul3 d x) := ⟨Int.mul_nonneg h hx.1, Int.mul_nonneg h hx.2.1, Int.mul_nonneg h hx.2.2⟩
theorem Cn.ray_mon (hk : k.Ok) (j : Nat) : k.Mon (k.ray j) := by
  unfold Cn.Mon
  rw [Cn.own_ray]
  exact mul3_nn (by have := Cn.D_pos hk; omega) (unit3_nn j)
/-- What the length of a small spot is. -/
theorem ln3_dvd {x : S3} (h : (-20 ≤ x.1 ∧ x.1 ≤ 20) ∧ (-20 ≤ x.2.1 ∧ x.2.1 ≤ 20) ∧ (-20 ≤ x.2.2 ∧ x.2.2 ≤ 20)) (hz : x ≠ z3) : 1 ≤ ln3 x ∧ ∃ y : S3, x = mul3 (ln3 x) y ∧ dv3 x = y ∧ ((-20 ≤ y.1 ∧ y.1 ≤ 20) ∧ (-20 ≤ y.2.1 ∧ y.2.1 ≤ 20) ∧ (-20 ≤ y.2.2 ∧ y.2.2 ≤ 20)) := by
  have e : ln3 x = ((Int.gcd (Int.gcd x.1 x.2.1 : Int) x.2.2 : Nat) : Int) := lnF_eq (by unfold sm; omega) (by unfold sm; omega) (by unfold sm; omega)
  have hp : 0 < ln3 x := by
    rw [e]
    exact gcd3_pos fun h0 => hz (s3_ext h0.1 h0.2.1 h0.2.2)
  obtain ⟨⟨p, hp1⟩, ⟨q, hq1⟩, ⟨r, hr1⟩⟩ := gcd3_dvd x.1 x.2.1 x.2.2
  rw [← e] at hp1 hq1 hr1
  have bd : ∀ {a l q : Int}, 0 < l → a = l * q → -20 ≤ a ∧ a ≤ 20 → -20 ≤ q ∧ q ≤ 20 := by
    intro a l q hl ha hb
    subst ha
    rcases Int.lt_or_le q 0 with hq | hq
    · have := Int.mul_le_mul_of_nonpos_right (show (1 : Int) ≤ l by omega) (show q ≤ 0 by omega)
      omega
    · have := Int.mul_le_mul_of_nonneg_right (show (1 : Int) ≤ l by omega) hq
      omega
  have dv : ∀ {a q : Int}, a = ln3 x * q → -20 ≤ q ∧ q ≤ 20 → w64 (a.tdiv (ln3 x)) = q := by
    intro a q ha hb
    rw [ha, Int.mul_tdiv_cancel_left q (by omega)]
    exact w64_in (by omega) (by omega)
  have b1 := bd hp hp1 h.1
  have b2 := bd hp hq1 h.2.1
  have b3 := bd hp hr1 h.2.2
  exact ⟨hp, (p, q, r), s3_ext hp1 hq1 hr1, s3_ext (dv hp1 b1) (dv hq1 b2) (dv hr1 b3), b1, b2, b3⟩
/-- A cone and its primitive rays. -/
structure PrmI (k k' : Cn) (l0 l1 l2 : Int) : Prop where
  p0 : 1 ≤ l0
  p1 : 1 ≤ l1
  p2 : 1 ≤ l2
  a : k.a = l0 * k'.a
  b : k.b = l0 * k'.b
  c : k.c = l0 * k'.c
  d : k.d = l1 * k'.d
  e : k.e = l1 * k'.e
  f : k.f = l1 * k'.f
  g : k.g = l2 * k'.g
  h : k.h = l2 * k'.h
  i : k.i = l2 * k'.i
theorem Cn.prm_i (hk : k.Ok) : PrmI k k.prm (ln3 (k.ray 0)) (ln3 (k.ray 1)) (ln3 (k.ray 2)) := by
  obtain ⟨p0, y0, e0, d0, -⟩ := ln3_dvd (Cn.ray_sm hk 0) (Cn.ray_ne hk 0)
  obtain ⟨p1, y1, e1, d1, -⟩ := ln3_dvd (Cn.ray_sm hk 1) (Cn.ray_ne hk 1)
  obtain ⟨p2, y2, e2, d2, -⟩ := ln3_dvd (Cn.ray_sm hk 2) (Cn.ray_ne hk 2)
  rw [← d0] at e0; rw [← d1] at e1; rw [← d2] at e2
  exact ⟨p0, p1, p2, congrArg (·.1) e0, congrArg (·.2.1) e0, congrArg (·.2.2) e0, congrArg (·.1) e1, congrArg (·.2.1) e1, congrArg (·.2.2) e1, congrArg (·.1) e2, congrArg (·.2.1) e2, congrArg (·.2.2) e2⟩
section
variable {k' : Cn} {l0 l1 l2 : Int}
theorem PrmI.vol (h : PrmI k k' l0 l1 l2) : k.vol = l0 * l1 * l2 * k'.vol := by
  unfold Cn.vol volP
  rw [h.a, h.b, h.c, h.d, h.e, h.f, h.g, h.h, h.i]
  grind
theorem PrmI.pos (h : PrmI k k' l0 l1 l2) : 1 ≤ l0 * l1 * l2 := by
  have h1 := h.p0; have h2 := h.p1; have h3 := h.p2
  have := Int.mul_pos (Int.mul_pos (show 0 < l0 by omega) (show 0 < l1 by omega)) (show 0 < l2 by omega)
  omega
theorem PrmI.sg (h : PrmI k k' l0 l1 l2) : k.sg = k'.sg := by
  have hp := h.pos
  unfold Cn.sg
  rw [h.vol]
  by_cases hv : k'.vol < 0
  · rw [if_pos hv, if_pos (Int.mul_neg_of_pos_of_neg (by omega) hv)]
  · rw [if_neg hv, if_neg (by have := Int.mul_nonneg (show 0 ≤ l0 * l1 * l2 by omega) (show 0 ≤ k'.vol by omega); omega)]
theorem PrmI.det (h : PrmI k k' l0 l1 l2) : k.D = l0 * l1 * l2 * k'.D := by
  unfold Cn.D
  rw [h.sg, h.vol, Int.mul_left_comm]
theorem PrmI.own (h : PrmI k k' l0 l1 l2) (x : S3) : k.own x = (l1 * l2 * (k'.own x).1, l0 * l2 * (k'.own x).2.1, l0 * l1 * (k'.own x).2.2) := by
  unfold Cn.own volP
  rw [h.sg, h.a, h.b, h.c, h.d, h.e, h.f, h.g, h.h, h.i]
  simp only [Prod.mk.injEq]
  refine ⟨?_, ?_, ?_⟩ <;> grind
theorem PrmI.mon (h : PrmI k k' l0 l1 l2) (x : S3) : k.Mon x ↔ k'.Mon x := by
  have h1 := h.p0; have h2 := h.p1; have h3 := h.p2
  have key : ∀ {p q y : Int}, 1 ≤ p → 1 ≤ q → (0 ≤ p * q * y ↔ 0 ≤ y) := by
    intro p q y hp hq
    have hpq : 0 < p * q := Int.mul_pos (by omega) (by omega)
    constructor
    · intro h0
      refine Classical.byContradiction fun hn => ?_
      have := Int.mul_neg_of_pos_of_neg hpq (show y < 0 by omega)
      omega
    · intro h0; exact Int.mul_nonneg (by omega) h0
  unfold Cn.Mon NN
  rw [h.own]
  simp only [key h2 h3, key h1 h3, key h1 h2]
theorem PrmI.irr (h : PrmI k k' l0 l1 l2) (x : S3) : k.Irr x ↔ k'.Irr x := by
  unfold Cn.Irr
  simp only [h.mon]
theorem PrmI.ok (h : PrmI k k' l0 l1 l2) (hk : k.Ok) : k'.vol ≠ 0 ∧ k'.D ≤ k.D := by
  have hp := h.pos
  have hv : k'.vol ≠ 0 := fun e => hk.nz (by rw [h.vol, e, Int.mul_zero])
  refine ⟨hv, ?_⟩
  have hD : 0 ≤ k'.D := by unfold Cn.D Cn.sg; split <;> omega
  rw [h.det]
  have := Int.mul_le_mul_of_nonneg_right hp hD
  omega
end
theorem Cn.prm_ok (hk : k.Ok) : k.prm.Ok := by
  obtain ⟨-, y0, -, d0, b0⟩ := ln3_dvd (Cn.ray_sm hk 0) (Cn.ray_ne hk 0)
  obtain ⟨-, y1, -, d1, b1⟩ := ln3_dvd (Cn.ray_sm hk 1) (Cn.ray_ne hk 1)
  obtain ⟨-, y2, -, d2, b2⟩ := ln3_dvd (Cn.ray_sm hk 2) (Cn.ray_ne hk 2)
  rw [← d0] at b0; rw [← d1] at b1; rw [← d2] at b2
  obtain ⟨h1, h2⟩ := (Cn.prm_i hk).ok hk
  exact ⟨b0.1, b0.2.1, b0.2.2, b1.1, b1.2.1, b1.2.2, b2.1, b2.2.1, b2.2.2, h1, Int.le_trans h2 hk.le⟩

/-! ### Lists that generate -/
/-- A spot of the cone is in the box, after whole multiples of rays are taken away. -/
theorem mon_fold (hk : k.Ok) {m : S3} (hm : k.Mon m) : k.Mon (k.fold m) ∧ k.Mon (sub3 m (k.fold m)) := by
  have hp := Cn.D_pos hk
  unfold Cn.Mon at *
  rw [Cn.own_sub, Cn.own_fold]
  have key : ∀ {a : Int}, 0 ≤ a → 0 ≤ a % k.D ∧ 0 ≤ a - a % k.D := by
    intro a ha
    have h1 := Int.emod_nonneg a (show k.D ≠ 0 by omega)
    have h2 := Int.emod_add_mul_ediv a k.D
    have h3 := Int.mul_nonneg (show 0 ≤ k.D by omega) (Int.ediv_nonneg ha (show 0 ≤ k.D by omega))
    omega
  exact ⟨⟨(key hm.1).1, (key hm.2.1).1, (key hm.2.2).1⟩, ⟨(key hm.1).2, (key hm.2.1).2, (key hm.2.2).2⟩⟩
/-- A sum of whole multiples of rays is at least one ray. -/
theorem mon_ray (hk : k.Ok) {m : S3} (hm : k.Mon m) (hz : m ≠ z3) (hf : k.fold m = z3) : ∃ j, j < 3 ∧ k.Mon (sub3 m (k.ray j)) := by
  have hp := Cn.D_pos hk
  have h0 := Cn.own_fold k m
  rw [hf, Cn.own_zero] at h0
  simp only [mod3, Prod.mk.injEq] at h0
  have hne := Cn.own_ne hk hz
  unfold Cn.Mon NN at hm ⊢
  have key : ∀ {a : Int}, 0 ≤ a → 0 = a % k.D → a ≠ 0 → k.D ≤ a := by
    intro a h1 h2 h3
    have h4 := Int.emod_add_mul_ediv a k.D
    have h5 : 0 < a / k.D := by
      rcases Int.lt_or_le 0 (a / k.D) with h | h
      · exact h
      · have := Int.mul_le_mul_of_nonneg_left h (show 0 ≤ k.D by omega)
        omega
    have h6 := Int.mul_le_mul_of_nonneg_left (show 1 ≤ a / k.D by omega) (show 0 ≤ k.D by omega)
    omega
  by_cases h1 : (k.own m).1 = 0
  · by_cases h2 : (k.own m).2.1 = 0
    · have h3 : (k.own m).2.2 ≠ 0 := fun h3 => hne (s3_ext h1 h2 h3)
      refine ⟨2, by omega, ?_⟩
      have := key hm.2.2 h0.2.2 h3
      rw [Cn.own_sub, Cn.own_ray]
      simp only [sub3, mul3, unit3]; omega
    · refine ⟨1, by omega, ?_⟩
      have := key hm.2.1 h0.2.1 h2
      rw [Cn.own_sub, Cn.own_ray]
      simp only [sub3, mul3, unit3]; omega
  · refine ⟨0, by omega, ?_⟩
    have := key hm.1 h0.1 h1
    rw [Cn.own_sub, Cn.own_ray]
    simp only [sub3, mul3, unit3]; omega
theorem box_mon {m : S3} (h : k.Box (k.own m)) : k.Mon m := ⟨h.1.1, h.2.1.1, h.2.2.1⟩
/-- The box and the rays. -/
theorem gen_all (hk : k.Ok) {G : List S3} (h1 : ∀ x, x ∈ G → k.Mon x ∧ x ≠ z3) (h2 : ∀ x, x ∈ boxL k → x ≠ z3 → x ∈ G) (h3 : ∀ j, j < 3 → ∃ q ∈ G, k.Mon (sub3 (k.ray j) q)) : k.Gen G := by
  refine ⟨h1, fun m hm hz => ?_⟩
  by_cases hf : k.fold m = z3
  · obtain ⟨j, hj, hr⟩ := mon_ray hk hm hz hf
    obtain ⟨q, hq, hq2⟩ := h3 j hj
    refine ⟨q, hq, ?_⟩
    have := Cn.mon_add hr hq2
    rwa [show add3 (sub3 m (k.ray j)) (sub3 (k.ray j) q) = sub3 m q from s3_ext (by simp [sub3, add3]; omega) (by simp [sub3, add3]; omega) (by simp [sub3, add3]; omega)] at this
  · exact ⟨k.fold m, h2 _ (fold_mem hk m) hf, (mon_fold hk hm).2⟩
theorem sub3_self (x : S3) : sub3 x x = z3 := s3_ext (by simp [sub3]) (by simp [sub3]) (by simp [sub3])
theorem mon_zero (k : Cn) : k.Mon z3 := by unfold Cn.Mon NN; rw [Cn.own_zero]; simp

/-! ### The reference's list -/
def allS (k : Cn) : List S3 := insS (insS (insS (boxO k) (k.ray 0)) (k.ray 1)) (k.ray 2)
def bas (k : Cn) (A : List S3) (x : S3) : Bool := !decide (x = z3) && A.all fun y => decide (y = z3) || decide (sub3 x y = z3) || !nn3 (k.own (sub3 x y))
def hilO (k : Cn) : List S3 := (allS k.prm).filter (bas k.prm (allS k.prm))
theorem allS_asc (k : Cn) : Asc (allS k) := insS_asc (insS_asc (insS_asc (boxO_asc k) _) _) _
theorem allS_mem {x : S3} : x ∈ allS k ↔ x ∈ boxL k ∨ x = k.ray 0 ∨ x = k.ray 1 ∨ x = k.ray 2 := by
  unfold allS
  rw [insS_mem, insS_mem, insS_mem, boxO_mem]
  simp only [or_assoc]
theorem allS_len (hk : k.Ok) : (allS k).length ≤ 64000003 := by
  have h0 := boxO_len hk
  have hl : ∀ (l : List S3) (y : S3), (insS l y).length ≤ l.length + 1 := by
    intro l y
    unfold insS
    split
    · omega
    · have := atS_le y l
      simp only [List.length_append, List.length_take, List.length_drop, List.length_singleton]; omega
  unfold allS
  have h1 := hl (boxO k) (k.ray 0)
  have h2 := hl (insS (boxO k) (k.ray 0)) (k.ray 1)
  have h3 := hl (insS (insS (boxO k) (k.ray 0)) (k.ray 1)) (k.ray 2)
  omega
theorem gen_spec (hk : k.Ok) : k.Gen ((allS k).filter fun x => !decide (x = z3)) := by
  refine gen_all hk (fun x hx => ?_) (fun x hx hz => ?_) (fun j hj => ⟨k.ray j, ?_, ?_⟩)
  · obtain ⟨h1, h2⟩ := List.mem_filter.1 hx
    refine ⟨?_, by simpa using h2⟩
    rcases allS_mem.1 h1 with h | rfl | rfl | rfl
    · exact box_mon ((boxL_ok hk).box x h)
    · exact Cn.ray_mon hk 0
    · exact Cn.ray_mon hk 1
    · exact Cn.ray_mon hk 2
  · exact List.mem_filter.2 ⟨allS_mem.2 (.inl hx), by simpa using hz⟩
  · refine List.mem_filter.2 ⟨allS_mem.2 (.inr ?_), by simpa using Cn.ray_ne hk j⟩
    have : j = 0 ∨ j = 1 ∨ j = 2 := by omega
    rcases this with rfl | rfl | rfl
    · exact .inl rfl
    · exact .inr (.inl rfl)
    · exact .inr (.inr rfl)
  · rw [sub3_self]; exact mon_zero k
theorem sub3_zero {x y : S3} : sub3 x y = z3 ↔ y = x := by
  constructor
  · intro e
    simp only [sub3, Prod.mk.injEq] at e
    exact s3_ext (by omega) (by omega) (by omega)
  · rintro rfl; exact sub3_self _
theorem bas_iff {A : List S3} {x : S3} : (x ∈ A ∧ bas k A x = true) ↔ (x ∈ A.filter (fun x => !decide (x = z3)) ∧ ∀ q ∈ A.filter (fun x => !decide (x = z3)), q ≠ x → ¬ k.Mon (sub3 x q)) := by
  unfold bas
  simp only [Bool.and_eq_true, List.all_eq_true, Bool.or_eq_true, decide_eq_true_eq, Bool.not_eq_true', List.mem_filter, decide_eq_false_iff_not, sub3_zero]
  constructor
  · rintro ⟨h1, h2, h3⟩
    refine ⟨⟨h1, h2⟩, fun q hq hne hm => ?_⟩
    rcases h3 q hq.1 with (h | h) | h
    · exact hq.2 h
    · exact hne h
    · rw [nn3_iff.2 hm] at h; cases h
  · rintro ⟨⟨h1, h2⟩, h3⟩
    refine ⟨h1, h2, fun y hy => ?_⟩
    by_cases hy0 : y = z3
    · exact .inl (.inl hy0)
    · by_cases hyx : y = x
      · exact .inl (.inr hyx)
      · refine .inr ?_
        have := h3 y ⟨hy, hy0⟩ hyx
        cases hb : nn3 (k.own (sub3 x y))
        · rfl
        · exact absurd (nn3_iff.1 hb) this
theorem hilO_mem (hk : k.Ok) {x : S3} : x ∈ hilO k ↔ k.Irr x := by
  unfold hilO
  rw [List.mem_filter, bas_iff, irr_iff (Cn.prm_ok hk) (gen_spec (Cn.prm_ok hk)), ← (Cn.prm_i hk).irr]
theorem hilO_asc (k : Cn) : Asc (hilO k) := List.Pairwise.sublist (List.filter_sublist ..) (allS_asc _)

/-! ### The program's list -/
def ray1 (k : Cn) (j : Nat) : List S3 := if ln3 (k.ray j) = 1 then [k.ray j] else []
def genI (k : Cn) : List S3 := (boxL k).tail ++ ray1 k 0 ++ ray1 k 1 ++ ray1 k 2
def hb (x y : S3) : Bool := !decide (y = x) && nn3 (sub3 x y)
def hilI (k : Cn) : List S3 := (genI k).filter fun p => !((genI k).any fun q => hb (k.own p) (k.own q))
theorem ray1_mem {x : S3} {j : Nat} : x ∈ ray1 k j ↔ x = k.ray j ∧ ln3 (k.ray j) = 1 := by
  unfold ray1
  split <;> simp [*]
theorem boxL_cons (k : Cn) : boxL k = z3 :: (boxL k).tail := by
  obtain ⟨t, ht⟩ := (bfs_closed (nx := k.nxS) (bigN + 1) 0 [z3]).1
  have : boxL k = z3 :: t := ht.symm
  rw [this]; rfl
theorem tail_mem (hk : k.Ok) {x : S3} : x ∈ (boxL k).tail ↔ x ∈ boxL k ∧ x ≠ z3 := by
  have hn := (boxL_ok hk).nd
  rw [boxL_cons, List.nodup_cons] at hn
  constructor
  · intro h
    exact ⟨by rw [boxL_cons]; exact List.mem_cons_of_mem _ h, fun e => hn.1 (e ▸ h)⟩
  · rintro ⟨h, hz⟩
    rw [boxL_cons] at h
    rcases List.mem_cons.1 h with e | h
    · exact absurd e hz
    · exact h
theorem genI_mem (hk : k.Ok) {x : S3} : x ∈ genI k ↔ (x ∈ boxL k ∧ x ≠ z3) ∨ ∃ j, j < 3 ∧ x = k.ray j ∧ ln3 (k.ray j) = 1 := by
  unfold genI
  simp only [List.mem_append, tail_mem hk, ray1_mem, or_assoc]
  constructor
  · rintro (h | h | h | h)
    · exact .inl h
    · exact .inr ⟨0, by omega, h⟩
    · exact .inr ⟨1, by omega, h⟩
    · exact .inr ⟨2, by omega, h⟩
  · rintro (h | ⟨j, hj, h⟩)
    · exact .inl h
    · have : j = 0 ∨ j = 1 ∨ j = 2 := by omega
      rcases this with rfl | rfl | rfl
      · exact .inr (.inl h)
      · exact .inr (.inr (.inl h))
      · exact .inr (.inr (.inr h))
theorem gen_impl (hk : k.Ok) : k.Gen (genI k) := by
  have hp := Cn.D_pos hk
  refine gen_all hk (fun x hx => ?_) (fun x hx hz => (genI_mem hk).2 (.inl ⟨hx, hz⟩)) (fun j hj => ?_)
  · rcases (genI_mem hk).1 hx with ⟨h, hz⟩ | ⟨j, -, rfl, -⟩
    · exact ⟨box_mon ((boxL_ok hk).box x h), hz⟩
    · exact ⟨Cn.ray_mon hk j, Cn.ray_ne hk j⟩
  · by_cases hl : ln3 (k.ray j) = 1
    · exact ⟨k.ray j, (genI_mem hk).2 (.inr ⟨j, hj, rfl, hl⟩), by rw [sub3_self]; exact mon_zero k⟩
    · obtain ⟨p0, y, e0, -, -⟩ := ln3_dvd (Cn.ray_sm hk j) (Cn.ray_ne hk j)
      generalize ln3 (k.ray j) = l at hl p0 e0
      have e1 : mul3 k.D (unit3 j) = mul3 l (k.own y) := by rw [← Cn.own_ray, e0, Cn.own_mul]
      have key : ∀ {u w : Int}, (u = 0 ∨ u = 1) → k.D * u = l * w → (0 ≤ w ∧ w < k.D) ∧ 0 ≤ k.D * u - w := by
        intro u w hu he
        have hl2 : 2 ≤ l := by omega
        rcases hu with rfl | rfl
        · rw [Int.mul_zero] at he
          have : w = 0 := by
            rcases Int.mul_eq_zero.1 he.symm with h | h
            · omega
            · exact h
          omega
        · rw [Int.mul_one] at he ⊢
          have hw : 0 < w := by
            refine Classical.byContradiction fun hn => ?_
            have := Int.mul_le_mul_of_nonneg_left (show w ≤ 0 by omega) (show 0 ≤ l by omega)
            omega
          have := Int.mul_le_mul_of_nonneg_right hl2 (show 0 ≤ w by omega)
          omega
      have hu : ((unit3 j).1 = 0 ∨ (unit3 j).1 = 1) ∧ ((unit3 j).2.1 = 0 ∨ (unit3 j).2.1 = 1) ∧ ((unit3 j).2.2 = 0 ∨ (unit3 j).2.2 = 1) := by
        match j with
        | 0 => decide
        | 1 => decide
        | _ + 2 => exact ⟨.inl rfl, .inl rfl, .inr rfl⟩
      have e2 := e1
      simp only [mul3, Prod.mk.injEq] at e2
      have k1 := key hu.1 e2.1
      have k2 := key hu.2.1 e2.2.1
      have k3 := key hu.2.2 e2.2.2
      refine ⟨y, (genI_mem hk).2 (.inl ⟨box_mem hk ⟨k1.1, k2.1, k3.1⟩, fun h0 => ?_⟩), ?_⟩
      · refine Cn.ray_ne hk j ?_
        rw [e0, h0]
        simp [mul3]
      · unfold Cn.Mon
        rw [Cn.own_sub, Cn.own_ray]
        exact ⟨k1.2, k2.2, k3.2⟩
theorem hb_own (hk : k.Ok) {p q : S3} : hb (k.own p) (k.own q) = true ↔ q ≠ p ∧ k.Mon (sub3 p q) := by
  unfold hb Cn.Mon
  rw [Bool.and_eq_true, nn3_iff, Cn.own_sub]
  simp only [Bool.not_eq_true', decide_eq_false_iff_not]
  constructor
  · rintro ⟨h1, h2⟩; exact ⟨fun e => h1 (by rw [e]), h2⟩
  · rintro ⟨h1, h2⟩; exact ⟨fun e => h1 (Cn.own_inj hk e), h2⟩
theorem hilI_mem (hk : k.Ok) {x : S3} : x ∈ hilI k ↔ k.Irr x := by
  rw [← irr_iff hk (gen_impl hk)]
  unfold hilI
  rw [List.mem_filter, Bool.not_eq_true', ← Bool.not_eq_true, List.any_eq_true]
  constructor
  · rintro ⟨h1, h2⟩
    exact ⟨h1, fun q hq hne hm => h2 ⟨q, hq, (hb_own hk).2 ⟨hne, hm⟩⟩⟩
  · rintro ⟨h1, h2⟩
    refine ⟨h1, ?_⟩
    rintro ⟨q, hq, hb⟩
    obtain ⟨h3, h4⟩ := (hb_own hk).1 hb
    exact h2 q hq h3 h4
theorem filt_map (f : S3 → S3) (r : S3 → S3 → Bool) (G : List S3) : (G.map f).filter (fun x => !((G.map f).any fun y => r x y)) = (G.filter fun p => !(G.any fun q => r (f p) (f q))).map f := by
  rw [List.filter_map]
  refine congrArg (List.map f) (List.filter_congr fun p hp => ?_)
  simp only [Function.comp, List.any_map]
  rfl
theorem hilI_map (k : Cn) : ((genI k).map k.own).filter (fun x => !(((genI k).map k.own).any fun y => hb x y)) = (hilI k).map k.own := filt_map k.own hb (genI k)
theorem ray_unit (j : Nat) (hj : j < 3) : unit3 j = if j = 0 then (1, 0, 0) else if j = 1 then (0, 1, 0) else (0, 0, 1) := by
  have : j = 0 ∨ j = 1 ∨ j = 2 := by omega
  rcases this with rfl | rfl | rfl <;> rfl
theorem ray_nbox (hk : k.Ok) (j : Nat) : k.ray j ∉ boxL k := fun h => by
  have hp := Cn.D_pos hk
  have := (boxL_ok hk).box _ h
  rw [Cn.own_ray] at this
  unfold Cn.Box mul3 at this
  match j with
  | 0 => simp only [unit3] at this; omega
  | 1 => simp only [unit3] at this; omega
  | _ + 2 => simp only [unit3] at this; omega
theorem ray_inj (hk : k.Ok) {i j : Nat} (hi : i < 3) (hj : j < 3) (h : k.ray i = k.ray j) : i = j := by
  have hp := Cn.D_pos hk
  have hn : k.D ≠ 0 := by omega
  have e := congrArg k.own h
  rw [Cn.own_ray, Cn.own_ray] at e
  simp only [mul3, Prod.mk.injEq] at e
  have e2 : unit3 i = unit3 j := s3_ext (Int.eq_of_mul_eq_mul_left hn e.1) (Int.eq_of_mul_eq_mul_left hn e.2.1) (Int.eq_of_mul_eq_mul_left hn e.2.2)
  have key : ∀ a < 3, ∀ b < 3, unit3 a = unit3 b → a = b := by decide
  exact key i hi j hj e2
theorem ray1_nd (j : Nat) : (ray1 k j).Nodup := by unfold ray1; split <;> simp
theorem genI_nd (hk : k.Ok) : (genI k).Nodup := by
  have hb : (boxL k).tail.Nodup := List.Nodup.sublist (List.tail_sublist _) (boxL_ok hk).nd
  unfold genI
  refine List.nodup_append.2 ⟨List.nodup_append.2 ⟨List.nodup_append.2 ⟨hb, ray1_nd 0, ?_⟩, ray1_nd 1, ?_⟩, ray1_nd 2, ?_⟩
  · rintro a ha b hb rfl
    obtain ⟨rfl, -⟩ := ray1_mem.1 hb
    exact ray_nbox hk 0 ((tail_mem hk).1 ha).1
  · rintro a ha b hb rfl
    obtain ⟨rfl, -⟩ := ray1_mem.1 hb
    rcases List.mem_append.1 ha with ha | ha
    · exact ray_nbox hk 1 ((tail_mem hk).1 ha).1
    · have := ray_inj hk (by omega) (by omega) (ray1_mem.1 ha).1; omega
  · rintro a ha b hb rfl
    obtain ⟨rfl, -⟩ := ray1_mem.1 hb
    rcases List.mem_append.1 ha with ha | ha
    · rcases List.mem_append.1 ha with ha | ha
      · exact ray_nbox hk 2 ((tail_mem hk).1 ha).1
      · have := ray_inj hk (by omega) (by omega) (ray1_mem.1 ha).1; omega
    · have := ray_inj hk (by omega) (by omega) (ray1_mem.1 ha).1; omega
theorem hilI_nd (hk : k.Ok) : (hilI k).Nodup := (genI_nd hk).filter _
theorem hil_eq (hk : k.Ok) {l : List S3} (hp : l.Perm (hilI k)) (hs : l.Pairwise (fun x y => lt3 y x = false)) : l = hilO k := by
  refine asc_uniq (asc_perm hp hs (hilI_nd hk)) (hilO_asc k) fun x => ?_
  rw [hp.mem_iff, hilI_mem hk, hilO_mem hk]
end
end Go.Ev
