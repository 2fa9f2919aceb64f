/-
  Several texts of this work in one (a claim holds at most 60 files).
  Conditions: as each contract states.
-/
import Derived.Test.YtndmkibdcfpddaaGreatKM2
import Derived.Test.YtndmkibdcfpddaaGreatKM1
section
/-
  The box of a cone: the two walks give the same list; which cones are taken.
  Conditions: none.
-/
set_option linter.unusedVariables false
set_option linter.unusedSimpArgs false
namespace Go.Ev

theorem isSF_iff {a : Int} : isSF a = true ↔ -20 ≤ a ∧ a ≤ 20 := by
  unfold isSF inF
  simp
theorem spF_iff {a b c : Int} : isSpF a b c = true ↔ (-20 ≤ a ∧ a ≤ 20) ∧ (-20 ≤ b ∧ b ≤ 20) ∧ (-20 ≤ c ∧ c ≤ 20) := by
  unfold isSpF
  rw [Bool.and_eq_true, Bool.and_eq_true, isSF_iff, isSF_iff, isSF_iff, and_assoc]
theorem volF_small {a b c d e f g h i : Int} (h1 : isSpF a b c = true) (h2 : isSpF d e f = true) (h3 : isSpF g h i = true) : volF a b c d e f g h i = volP a b c d e f g h i ∧ -480000 ≤ volP a b c d e f g h i ∧ volP a b c d e f g h i ≤ 480000 := by
  obtain ⟨a1, a2, a3⟩ := spF_iff.1 h1
  obtain ⟨b1, b2, b3⟩ := spF_iff.1 h2
  obtain ⟨c1, c2, c3⟩ := spF_iff.1 h3
  have hv := volP_bd (x := (a, b, c)) ⟨by simp only; omega, by simp only; omega, by simp only; omega⟩ b1 b2 b3 c1 c2 c3
  exact ⟨vol_in hv, hv⟩
theorem Cn.ok_of {a b c d e f g h i : Int} (hc : isConeF a b c d e f g h i = true) (hl : decide (sizeF (volF a b c d e f g h i) > 400) = false) : (Cn.mk a b c d e f g h i).Ok := by
  unfold isConeF at hc
  simp only [Bool.and_eq_true, Bool.not_eq_true', decide_eq_false_iff_not] at hc
  obtain ⟨⟨⟨h1, h2⟩, h3⟩, h4⟩ := hc
  obtain ⟨e_, v1, v2⟩ := volF_small h1 h2 h3
  rw [e_] at h4 hl
  obtain ⟨a1, a2, a3⟩ := spF_iff.1 h1
  obtain ⟨b1, b2, b3⟩ := spF_iff.1 h2
  obtain ⟨c1, c2, c3⟩ := spF_iff.1 h3
  refine ⟨a1, a2, a3, b1, b2, b3, c1, c2, c3, h4, ?_⟩
  have hl := of_decide_eq_false hl
  unfold sizeF maxi at hl
  rw [w64_in (n := 0 - volP a b c d e f g h i) (by omega) (by omega)] at hl
  show (if volP a b c d e f g h i < 0 then (-1 : Int) else 1) * volP a b c d e f g h i ≤ 400
  split <;> split at hl <;> omega
theorem Cn.cone_F {k : Cn} (h : k.Ok) : isConeF k.a k.b k.c k.d k.e k.f k.g k.h k.i = true := by
  unfold isConeF
  rw [spF_iff.2 ⟨h.ba, h.bb, h.bc⟩, spF_iff.2 ⟨h.bd, h.be, h.bf⟩, spF_iff.2 ⟨h.bg, h.bh, h.bi⟩, Cn.vol_F h, decide_eq_false h.nz]
  rfl
theorem Cn.lim_F {k : Cn} (h : k.Ok) : decide (sizeF (volF k.a k.b k.c k.d k.e k.f k.g k.h k.i) > 400) = false := by
  rw [Cn.size_F h]
  exact decide_eq_false (by have := h.le; omega)
theorem boxL_ok {k : Cn} (h : k.Ok) : BoxL k (boxL k) := BoxL.bfs h _ _ (BoxL.start h)
theorem boxO_len {k : Cn} (h : k.Ok) : (boxO k).length ≤ 64000000 :=
  BoxL.len ⟨(boxO_asc k).nodup, fun x hx => (boxL_ok h).box x ((boxO_mem k x).1 hx)⟩ h
theorem asc_perm {l m : List S3} (hp : l.Perm m) (hs : l.Pairwise (fun x y => lt3 y x = false)) (hd : m.Nodup) : Asc l := by
  have hd2 : l.Nodup := hp.nodup_iff.2 hd
  refine (hs.and hd2).imp ?_
  rintro x y ⟨h1, h2⟩
  cases h : lt3 x y
  · exact absurd (lt3_total h h1) h2
  · rfl
theorem box_eq {k : Cn} (h : k.Ok) {l : List S3} (hp : l.Perm (boxL k)) (hs : l.Pairwise (fun x y => lt3 y x = false)) : l = boxO k := by
  refine asc_uniq (asc_perm hp hs (boxL_ok h).nd) (boxO_asc k) fun x => ?_
  rw [hp.mem_iff, boxO_mem]
end Go.Ev
end

section
/-
  Small numbers; the length of a spot.
  Conditions: none.
-/
set_option linter.unusedVariables false
set_option linter.unusedSimpArgs false
namespace Go.Ev
def sm (a m : Int) : Prop := -m ≤ a ∧ a ≤ m

theorem sm_mul {x y m n : Int} (hx : sm x m) (hy : sm y n) (hm : 0 ≤ m) : sm (x * y) (m * n) := mul_abs hx.1 hx.2 hy.1 hy.2 hm
def lnF (a b c : Int) : Int := gcdF (gcdF a b) c
theorem lnF_eq {a b c : Int} (ha : sm a 3200) (hb : sm b 3200) (hc : sm c 3200) : lnF a b c = ((Int.gcd (Int.gcd a b : Int) c : Nat) : Int) := by
  unfold sm at *
  have h1 : gcdF a b = (Int.gcd a b : Int) := gcdF_eq (by omega) (by omega)
  unfold lnF
  rw [h1]
  refine gcdF_eq ?_ (by omega)
  by_cases h : a = 0
  · subst h; simp; omega
  · have := Nat.gcd_le_left (n := b.natAbs) (m := a.natAbs) (by omega)
    have e : Int.gcd a b = Nat.gcd a.natAbs b.natAbs := rfl
    rw [e]; simp only [Int.natAbs_natCast]; omega
theorem gcd3_dvd (a b c : Int) : ((Int.gcd (Int.gcd a b : Int) c : Nat) : Int) ∣ a ∧ ((Int.gcd (Int.gcd a b : Int) c : Nat) : Int) ∣ b ∧ ((Int.gcd (Int.gcd a b : Int) c : Nat) : Int) ∣ c := by
  have h1 : ((Int.gcd (Int.gcd a b : Int) c : Nat) : Int) ∣ (Int.gcd a b : Int) := Int.gcd_dvd_left ..
  exact ⟨Int.dvd_trans h1 (Int.gcd_dvd_left ..), Int.dvd_trans h1 (Int.gcd_dvd_right ..), Int.gcd_dvd_right ..⟩
theorem gcd3_pos {a b c : Int} (h : ¬ (a = 0 ∧ b = 0 ∧ c = 0)) : 0 < ((Int.gcd (Int.gcd a b : Int) c : Nat) : Int) := by
  rcases Int.lt_or_le 0 ((Int.gcd (Int.gcd a b : Int) c : Nat) : Int) with h1 | h1
  · exact h1
  · have h2 : ((Int.gcd (Int.gcd a b : Int) c : Nat) : Int) = 0 := by omega
    have h3 := gcd3_dvd a b c
    rw [h2] at h3
    exact absurd ⟨Int.zero_dvd.1 h3.1, Int.zero_dvd.1 h3.2.1, Int.zero_dvd.1 h3.2.2⟩ h

end Go.Ev
end

section
/-
  Hilbert bases of cones: the spots that are no sums, from any list that generates. The plain law.
  Conditions: none.
-/
set_option linter.unusedVariables false
set_option linter.unusedSimpArgs false
namespace Go.Ev

def sub3 (x y : S3) : S3 := (x.1 - y.1, x.2.1 - y.2.1, x.2.2 - y.2.2)
def nn3 (x : S3) : Bool := decide (x.1 ≥ 0) && decide (x.2.1 ≥ 0) && decide (x.2.2 ≥ 0)
def NN (x : S3) : Prop := 0 ≤ x.1 ∧ 0 ≤ x.2.1 ∧ 0 ≤ x.2.2
theorem nn3_iff {x : S3} : nn3 x = true ↔ NN x := by unfold nn3 NN; simp [and_assoc]
theorem s3_ext {x y : S3} (h1 : x.1 = y.1) (h2 : x.2.1 = y.2.1) (h3 : x.2.2 = y.2.2) : x = y := Prod.ext h1 (Prod.ext h2 h3)
abbrev z3 : S3 := (0, 0, 0)

section
variable {nx : S3 → Nat → S3}
theorem put1_pre (L : List S3) (y : S3) : L <+: put1 L y := by
  unfold put1
  split
  · exact List.prefix_refl _
  · exact List.prefix_append _ _
theorem put1_mem (L : List S3) (y : S3) : y ∈ put1 L y := by
  unfold put1
  split
  · assumption
  · simp
theorem puts_pre (n : Nat) (L : List S3) : ∀ j, L <+: puts nx n L j
  | 0 => List.prefix_refl _
  | j + 1 => (puts_pre n L j).trans (put1_pre _ _)
theorem puts_mono (n : Nat) (L : List S3) {j : Nat} : ∀ m, j ≤ m → puts nx n L j <+: puts nx n L m
  | 0, h => by have : j = 0 := by omega
               subst this; exact List.prefix_refl _
  | m + 1, h => by
    by_cases e : j = m + 1
    · subst e; exact List.prefix_refl _
    · exact (puts_mono n L m (by omega)).trans (put1_pre _ _)
theorem pre_getD {L M : List S3} (h : L <+: M) {n : Nat} (hn : n < L.length) : M.getD n z3 = L.getD n z3 := by
  obtain ⟨t, rfl⟩ := h
  simp [List.getD, List.getElem?_append_left hn]
theorem puts_has (n : Nat) (L : List S3) (hn : n < L.length) {j : Nat} (hj : j < 3) : nx (L.getD n z3) j ∈ puts nx n L 3 := by
  have h1 : nx (L.getD n z3) j ∈ puts nx n L (j + 1) := by
    rw [← pre_getD (puts_pre (nx := nx) n L j) hn]
    exact put1_mem _ _
  exact (puts_mono n L 3 (by omega)).subset h1
theorem bfs_closed : ∀ (t n : Nat) (L : List S3), L <+: bfs nx t n L ∧ ((bfs nx t n L).length ≤ t + n → ∀ i, n ≤ i → i < (bfs nx t n L).length → ∀ j, j < 3 → nx ((bfs nx t n L).getD i z3) j ∈ bfs nx t n L)
  | 0, n, L => ⟨List.prefix_refl _, fun h i hi hl => by rw [bfs] at h hl; omega⟩
  | t + 1, n, L => by
    rw [bfs]
    split
    · rename_i hn
      obtain ⟨h1, h2⟩ := bfs_closed t (n + 1) (puts nx n L 3)
      refine ⟨(puts_pre n L 3).trans h1, fun h i hi hl j hj => ?_⟩
      by_cases e : i = n
      · subst e
        have hn2 := Nat.lt_of_lt_of_le hn (puts_len nx i L 3)
        rw [pre_getD h1 hn2, pre_getD (puts_pre i L 3) hn]
        exact h1.subset (puts_has i L hn hj)
      · exact h2 (by omega) i (by omega) hl j hj
    · rename_i hn
      exact ⟨List.prefix_refl _, fun h i hi hl => absurd hl (by omega)⟩
end
section
variable {k : Cn}
theorem boxL_zero (k : Cn) : z3 ∈ boxL k := (bfs_closed (nx := k.nxS) (bigN + 1) 0 [z3]).1.subset (List.mem_cons_self ..)
theorem boxL_next (hk : k.Ok) {x : S3} (hx : x ∈ boxL k) {j : Nat} (hj : j < 3) : k.nxS x j ∈ boxL k := by
  obtain ⟨i, hi, rfl⟩ := List.mem_iff_getElem.1 hx
  have hl : (boxL k).length ≤ bigN := (boxL_ok hk).len hk
  have := (bfs_closed (nx := k.nxS) (bigN + 1) 0 [z3]).2 (Nat.le_trans hl (by omega)) i (Nat.zero_le _) hi j hj
  rw [show (bfs k.nxS (bigN + 1) 0 [z3]).getD i z3 = (boxL k)[i] by
    show (boxL k).getD i z3 = _
    simp [List.getD, List.getElem?_eq_getElem hi]] at this
  exact this

theorem Cn.own_mul (k : Cn) (m : Int) (x : S3) : k.own (mul3 m x) = mul3 m (k.own x) := by
  simp only [Cn.own, mul3, volP, Prod.mk.injEq]
  refine ⟨?_, ?_, ?_⟩ <;> grind
theorem sub3_eq (x y : S3) : sub3 x y = add3 x (mul3 (-1) y) := s3_ext (by simp [sub3, add3, mul3]; omega) (by simp [sub3, add3, mul3]; omega) (by simp [sub3, add3, mul3]; omega)
theorem Cn.own_sub (k : Cn) (x y : S3) : k.own (sub3 x y) = sub3 (k.own x) (k.own y) := by
  rw [sub3_eq, Cn.own_add, Cn.own_mul, ← sub3_eq]
theorem Cn.fold_of (hk : k.Ok) {x y : S3} (h : mod3 k.D (k.own x) = mod3 k.D (k.own y)) : k.fold x = k.fold y :=
  Cn.own_inj hk (by rw [Cn.own_fold, Cn.own_fold, h])
theorem mod3_add (d : Int) (x y : S3) : mod3 d (add3 (mod3 d x) y) = mod3 d (add3 x y) := by
  simp only [mod3, add3, Prod.mk.injEq, Int.emod_add_emod, and_self]
theorem Cn.fold_add (hk : k.Ok) (x y : S3) : k.fold (add3 (k.fold x) y) = k.fold (add3 x y) := by
  refine Cn.fold_of hk ?_
  rw [Cn.own_add, Cn.own_add, Cn.own_fold, mod3_add]
theorem fold_step (hk : k.Ok) {x : S3} (h : k.fold x ∈ boxL k) {j : Nat} (hj : j < 3) : k.fold (add3 x (unit3 j)) ∈ boxL k := by
  have := boxL_next hk h hj
  unfold Cn.nxS at this
  rwa [Cn.fold_add hk] at this
theorem Cn.fold_box (hk : k.Ok) {x : S3} (h : k.Box (k.own x)) : k.fold x = x := by
  refine Cn.own_inj hk ?_
  rw [Cn.own_fold]
  obtain ⟨⟨a1, a2⟩, ⟨b1, b2⟩, ⟨c1, c2⟩⟩ := h
  exact s3_ext (Int.emod_eq_of_lt a1 a2) (Int.emod_eq_of_lt b1 b2) (Int.emod_eq_of_lt c1 c2)
theorem fold_nat (hk : k.Ok) : ∀ (a b c : Nat), k.fold ((a : Int), (b : Int), (c : Int)) ∈ boxL k
  | 0, 0, 0 => by
    have : k.fold (((0 : Nat) : Int), ((0 : Nat) : Int), ((0 : Nat) : Int)) = z3 := Cn.fold_box hk (Cn.box_zero hk)
    rw [this]; exact boxL_zero k
  | a + 1, b, c => by
    have := fold_step hk (fold_nat hk a b c) (j := 0) (by omega)
    rwa [show add3 ((a : Int), (b : Int), (c : Int)) (unit3 0) = (((a + 1 : Nat) : Int), (b : Int), (c : Int)) from s3_ext (by simp [add3, unit3]) (by simp [add3, unit3]) (by simp [add3, unit3])] at this
  | 0, b + 1, c => by
    have := fold_step hk (fold_nat hk 0 b c) (j := 1) (by omega)
    rwa [show add3 (((0 : Nat) : Int), (b : Int), (c : Int)) (unit3 1) = (((0 : Nat) : Int), ((b + 1 : Nat) : Int), (c : Int)) from s3_ext (by simp [add3, unit3]) (by simp [add3, unit3]) (by simp [add3, unit3])] at this
  | 0, 0, c + 1 => by
    have := fold_step hk (fold_nat hk 0 0 c) (j := 2) (by omega)
    rwa [show add3 (((0 : Nat) : Int), ((0 : Nat) : Int), (c : Int)) (unit3 2) = (((0 : Nat) : Int), ((0 : Nat) : Int), ((c + 1 : Nat) : Int)) from s3_ext (by simp [add3, unit3]) (by simp [add3, unit3]) (by simp [add3, unit3])] at this
theorem fold_mem (hk : k.Ok) (x : S3) : k.fold x ∈ boxL k := by
  have hp := Cn.D_pos hk
  have up : ∀ a : Int, ∃ n : Nat, (n : Int) = a + k.D * (a.natAbs : Int) := by
    intro a
    have : (a.natAbs : Int) ≤ k.D * (a.natAbs : Int) := by
      have := Int.mul_le_mul_of_nonneg_right hp (show 0 ≤ (a.natAbs : Int) by omega)
      omega
    exact ⟨(a + k.D * (a.natAbs : Int)).toNat, by omega⟩
  obtain ⟨a, ha⟩ := up x.1
  obtain ⟨b, hb⟩ := up x.2.1
  obtain ⟨c, hc⟩ := up x.2.2
  have e : ((a : Int), (b : Int), (c : Int)) = add3 x (mul3 k.D ((x.1.natAbs : Int), (x.2.1.natAbs : Int), (x.2.2.natAbs : Int))) := s3_ext ha hb hc
  have := fold_nat hk a b c
  rw [e] at this
  rw [Cn.fold_of hk (x := x) (y := add3 x (mul3 k.D ((x.1.natAbs : Int), (x.2.1.natAbs : Int), (x.2.2.natAbs : Int))))]
  · exact this
  · rw [Cn.own_add, Cn.own_mul]
    simp [mod3, add3, mul3, Int.add_mul_emod_self_left]
theorem box_mem (hk : k.Ok) {x : S3} (h : k.Box (k.own x)) : x ∈ boxL k := by
  have := fold_mem hk x
  rwa [Cn.fold_box hk h] at this
theorem boxL_iff (hk : k.Ok) {x : S3} : x ∈ boxL k ↔ k.Box (k.own x) := ⟨fun h => (boxL_ok hk).box x h, box_mem hk⟩

def Cn.Mon (k : Cn) (p : S3) : Prop := NN (k.own p)
def Cn.Irr (k : Cn) (p : S3) : Prop := k.Mon p ∧ p ≠ z3 ∧ ∀ q r, k.Mon q → k.Mon r → q ≠ z3 → r ≠ z3 → add3 q r ≠ p
structure Cn.Gen (k : Cn) (G : List S3) : Prop where
  mon : ∀ p ∈ G, k.Mon p ∧ p ≠ z3
  gen : ∀ m, k.Mon m → m ≠ z3 → ∃ q ∈ G, k.Mon (sub3 m q)
theorem Cn.own_ne (hk : k.Ok) {p : S3} (h : p ≠ z3) : k.own p ≠ z3 := fun e => h (Cn.own_inj hk (by rw [e, Cn.own_zero]))
theorem Cn.mon_add {p q : S3} (h1 : k.Mon p) (h2 : k.Mon q) : k.Mon (add3 p q) := by
  unfold Cn.Mon NN at *
  rw [Cn.own_add]
  simp only [add3]
  omega
theorem nn_sum {x y : S3} (h1 : NN x) (h2 : NN y) (h : add3 x y = z3) : x = z3 := by
  unfold NN at h1 h2
  simp only [add3, Prod.mk.injEq] at h
  exact s3_ext (show x.1 = 0 by omega) (show x.2.1 = 0 by omega) (show x.2.2 = 0 by omega)
theorem irr_iff (hk : k.Ok) {G : List S3} (h : k.Gen G) (p : S3) : (p ∈ G ∧ ∀ q ∈ G, q ≠ p → ¬ k.Mon (sub3 p q)) ↔ k.Irr p := by
  constructor
  · rintro ⟨hp, hq⟩
    obtain ⟨m, z⟩ := h.mon p hp
    refine ⟨m, z, fun q r mq mr zq zr e => ?_⟩
    obtain ⟨q', hq', m'⟩ := h.gen q mq zq
    have e2 : sub3 p q' = add3 r (sub3 q q') := by
      rw [← e]
      exact s3_ext (by simp [sub3, add3]; omega) (by simp [sub3, add3]; omega) (by simp [sub3, add3]; omega)
    refine hq q' hq' (fun e3 => ?_) (by rw [e2]; exact Cn.mon_add mr m')
    subst e3
    have e4 : add3 r (sub3 q q') = z3 := by
      rw [← e]
      exact s3_ext (by simp [sub3, add3]; omega) (by simp [sub3, add3]; omega) (by simp [sub3, add3]; omega)
    have e5 : add3 (k.own r) (k.own (sub3 q q')) = z3 := by rw [← Cn.own_add, e4, Cn.own_zero]
    exact Cn.own_ne hk zr (nn_sum mr m' e5)
  · rintro ⟨m, z, hn⟩
    obtain ⟨q, hq, mq⟩ := h.gen p m z
    have hpq : q = p := by
      refine Classical.byContradiction fun hne => ?_
      refine hn q (sub3 p q) (h.mon q hq).1 mq (h.mon q hq).2 (fun e => hne ?_) (s3_ext (by simp [sub3, add3]; omega) (by simp [sub3, add3]; omega) (by simp [sub3, add3]; omega))
      simp only [sub3, Prod.mk.injEq] at e
      exact s3_ext (by omega) (by omega) (by omega)
    subst hpq
    refine ⟨hq, fun r hr hne mr => ?_⟩
    refine hn r (sub3 q r) (h.mon r hr).1 mr (h.mon r hr).2 (fun e => hne ?_) (s3_ext (by simp [sub3, add3]; omega) (by simp [sub3, add3]; omega) (by simp [sub3, add3]; omega))
    simp only [sub3, Prod.mk.injEq] at e
    exact s3_ext (by omega) (by omega) (by omega)
end

def Cn.ray (k : Cn) : Nat → S3
  | 0 => (k.a, k.b, k.c)
  | 1 => (k.d, k.e, k.f)
  | _ => (k.g, k.h, k.i)
def ln3 (x : S3) : Int := lnF x.1 x.2.1 x.2.2
def dv3 (x : S3) : S3 := (w64 (x.1.tdiv (ln3 x)), w64 (x.2.1.tdiv (ln3 x)), w64 (x.2.2.tdiv (ln3 x)))
@[reducible] def Cn.prm (k : Cn) : Cn := ⟨(dv3 (k.ray 0)).1, (dv3 (k.ray 0)).2.1, (dv3 (k.ray 0)).2.2, (dv3 (k.ray 1)).1, (dv3 (k.ray 1)).2.1, (dv3 (k.ray 1)).2.2, (dv3 (k.ray 2)).1, (dv3 (k.ray 2)).2.1, (dv3 (k.ray 2)).2.2⟩
section
variable {k : Cn}
theorem Cn.own_ray (k : Cn) (j : Nat) : k.own (k.ray j) = mul3 k.D (unit3 j) := by
  rw [← Cn.own_sum]
  congr 1
  match j with
  | 0 => simp [Cn.ray, unit3, Cn.sum]
  | 1 => simp [Cn.ray, unit3, Cn.sum]
  | _ + 2 => simp [Cn.ray, unit3, Cn.sum]
theorem Cn.ray_sm (hk : k.Ok) (j : Nat) : (-20 ≤ (k.ray j).1 ∧ (k.ray j).1 ≤ 20) ∧ (-20 ≤ (k.ray j).2.1 ∧ (k.ray j).2.1 ≤ 20) ∧ (-20 ≤ (k.ray j).2.2 ∧ (k.ray j).2.2 ≤ 20) := by
  match j with
  | 0 => exact ⟨hk.ba, hk.bb, hk.bc⟩
  | 1 => exact ⟨hk.bd, hk.be, hk.bf⟩
  | _ + 2 => exact ⟨hk.bg, hk.bh, hk.bi⟩
theorem unit3_ne (j : Nat) : unit3 j ≠ z3 := by
  match j with
  | 0 => decide
  | 1 => decide
  | _ + 2 => exact (by decide : ((0 : Int), (0 : Int), (1 : Int)) ≠ z3)
theorem unit3_nn (j : Nat) : NN (unit3 j) := by
  match j with
  | 0 => exact ⟨by decide, by decide, by decide⟩
  | 1 => exact ⟨by decide, by decide, by decide⟩
  | _ + 2 => exact ⟨by simp [unit3], by simp [unit3], by simp [unit3]⟩
theorem mul3_ne {d : Int} (h : d ≠ 0) {x : S3} (hx : x ≠ z3) : mul3 d x ≠ z3 := fun e => by
  simp only [mul3, Prod.mk.injEq, Int.mul_eq_zero] at e
  exact hx (s3_ext (by simpa [h] using e.1) (by simpa [h] using e.2.1) (by simpa [h] using e.2.2))
theorem Cn.ray_ne (hk : k.Ok) (j : Nat) : k.ray j ≠ z3 := fun e => by
  have h := Cn.own_ray k j
  rw [e, Cn.own_zero] at h
  exact mul3_ne (by have := Cn.D_pos hk; omega) (unit3_ne j) h.symm
theorem mul3_nn {d : Int} (h : 0 ≤ d) {x : S3} (hx : NN x) : NN (mul3 d x) := ⟨Int.mul_nonneg h hx.1, Int.mul_nonneg h hx.2.1, Int.mul_nonneg h hx.2.2⟩
theorem Cn.ray_mon (hk : k.Ok) (j : Nat) : k.Mon (k.ray j) := by
  unfold Cn.Mon
  rw [Cn.own_ray]
  exact mul3_nn (by have := Cn.D_pos hk; omega) (unit3_nn j)
theorem ln3_dvd {x : S3} (h : (-20 ≤ x.1 ∧ x.1 ≤ 20) ∧ (-20 ≤ x.2.1 ∧ x.2.1 ≤ 20) ∧ (-20 ≤ x.2.2 ∧ x.2.2 ≤ 20)) (hz : x ≠ z3) : 1 ≤ ln3 x ∧ ∃ y : S3, x = mul3 (ln3 x) y ∧ dv3 x = y ∧ ((-20 ≤ y.1 ∧ y.1 ≤ 20) ∧ (-20 ≤ y.2.1 ∧ y.2.1 ≤ 20) ∧ (-20 ≤ y.2.2 ∧ y.2.2 ≤ 20)) := by
  have e : ln3 x = ((Int.gcd (Int.gcd x.1 x.2.1 : Int) x.2.2 : Nat) : Int) := lnF_eq (by unfold sm; omega) (by unfold sm; omega) (by unfold sm; omega)
  have hp : 0 < ln3 x := by
    rw [e]
    exact gcd3_pos fun h0 => hz (s3_ext h0.1 h0.2.1 h0.2.2)
  obtain ⟨⟨p, hp1⟩, ⟨q, hq1⟩, ⟨r, hr1⟩⟩ := gcd3_dvd x.1 x.2.1 x.2.2
  rw [← e] at hp1 hq1 hr1
  have bd : ∀ {a l q : Int}, 0 < l → a = l * q → -20 ≤ a ∧ a ≤ 20 → -20 ≤ q ∧ q ≤ 20 := by
    intro a l q hl ha hb
    subst ha
    rcases Int.lt_or_le q 0 with hq | hq
    · have := Int.mul_le_mul_of_nonpos_right (show (1 : Int) ≤ l by omega) (show q ≤ 0 by omega)
      omega
    · have := Int.mul_le_mul_of_nonneg_right (show (1 : Int) ≤ l by omega) hq
      omega
  have dv : ∀ {a q : Int}, a = ln3 x * q → -20 ≤ q ∧ q ≤ 20 → w64 (a.tdiv (ln3 x)) = q := by
    intro a q ha hb
    rw [ha, Int.mul_tdiv_cancel_left q (by omega)]
    exact w64_in (by omega) (by omega)
  have b1 := bd hp hp1 h.1
  have b2 := bd hp hq1 h.2.1
  have b3 := bd hp hr1 h.2.2
  exact ⟨hp, (p, q, r), s3_ext hp1 hq1 hr1, s3_ext (dv hp1 b1) (dv hq1 b2) (dv hr1 b3), b1, b2, b3⟩
structure PrmI (k k' : Cn) (l0 l1 l2 : Int) : Prop where
  p0 : 1 ≤ l0
  p1 : 1 ≤ l1
  p2 : 1 ≤ l2
  a : k.a = l0 * k'.a
  b : k.b = l0 * k'.b
  c : k.c = l0 * k'.c
  d : k.d = l1 * k'.d
  e : k.e = l1 * k'.e
  f : k.f = l1 * k'.f
  g : k.g = l2 * k'.g
  h : k.h = l2 * k'.h
  i : k.i = l2 * k'.i
theorem Cn.prm_i (hk : k.Ok) : PrmI k k.prm (ln3 (k.ray 0)) (ln3 (k.ray 1)) (ln3 (k.ray 2)) := by
  obtain ⟨p0, y0, e0, d0, -⟩ := ln3_dvd (Cn.ray_sm hk 0) (Cn.ray_ne hk 0)
  obtain ⟨p1, y1, e1, d1, -⟩ := ln3_dvd (Cn.ray_sm hk 1) (Cn.ray_ne hk 1)
  obtain ⟨p2, y2, e2, d2, -⟩ := ln3_dvd (Cn.ray_sm hk 2) (Cn.ray_ne hk 2)
  rw [← d0] at e0; rw [← d1] at e1; rw [← d2] at e2
  exact ⟨p0, p1, p2, congrArg (·.1) e0, congrArg (·.2.1) e0, congrArg (·.2.2) e0, congrArg (·.1) e1, congrArg (·.2.1) e1, congrArg (·.2.2) e1, congrArg (·.1) e2, congrArg (·.2.1) e2, congrArg (·.2.2) e2⟩
section
variable {k' : Cn} {l0 l1 l2 : Int}
theorem PrmI.vol (h : PrmI k k' l0 l1 l2) : k.vol = l0 * l1 * l2 * k'.vol := by
  unfold Cn.vol volP
  rw [h.a, h.b, h.c, h.d, h.e, h.f, h.g, h.h, h.i]
  grind
theorem PrmI.pos (h : PrmI k k' l0 l1 l2) : 1 ≤ l0 * l1 * l2 := by
  have h1 := h.p0; have h2 := h.p1; have h3 := h.p2
  have := Int.mul_pos (Int.mul_pos (show 0 < l0 by omega) (show 0 < l1 by omega)) (show 0 < l2 by omega)
  omega
theorem PrmI.sg (h : PrmI k k' l0 l1 l2) : k.sg = k'.sg := by
  have hp := h.pos
  unfold Cn.sg
  rw [h.vol]
  by_cases hv : k'.vol < 0
  · rw [if_pos hv, if_pos (Int.mul_neg_of_pos_of_neg (by omega) hv)]
  · rw [if_neg hv, if_neg (by have := Int.mul_nonneg (show 0 ≤ l0 * l1 * l2 by omega) (show 0 ≤ k'.vol by omega); omega)]
theorem PrmI.det (h : PrmI k k' l0 l1 l2) : k.D = l0 * l1 * l2 * k'.D := by
  unfold Cn.D
  rw [h.sg, h.vol, Int.mul_left_comm]
theorem PrmI.own (h : PrmI k k' l0 l1 l2) (x : S3) : k.own x = (l1 * l2 * (k'.own x).1, l0 * l2 * (k'.own x).2.1, l0 * l1 * (k'.own x).2.2) := by
  unfold Cn.own volP
  rw [h.sg, h.a, h.b, h.c, h.d, h.e, h.f, h.g, h.h, h.i]
  simp only [Prod.mk.injEq]
  refine ⟨?_, ?_, ?_⟩ <;> grind
theorem PrmI.mon (h : PrmI k k' l0 l1 l2) (x : S3) : k.Mon x ↔ k'.Mon x := by
  have h1 := h.p0; have h2 := h.p1; have h3 := h.p2
  have key : ∀ {p q y : Int}, 1 ≤ p → 1 ≤ q → (0 ≤ p * q * y ↔ 0 ≤ y) := by
    intro p q y hp hq
    have hpq : 0 < p * q := Int.mul_pos (by omega) (by omega)
    constructor
    · intro h0
      refine Classical.byContradiction fun hn => ?_
      have := Int.mul_neg_of_pos_of_neg hpq (show y < 0 by omega)
      omega
    · intro h0; exact Int.mul_nonneg (by omega) h0
  unfold Cn.Mon NN
  rw [h.own]
  simp only [key h2 h3, key h1 h3, key h1 h2]
theorem PrmI.irr (h : PrmI k k' l0 l1 l2) (x : S3) : k.Irr x ↔ k'.Irr x := by
  unfold Cn.Irr
  simp only [h.mon]
theorem PrmI.ok (h : PrmI k k' l0 l1 l2) (hk : k.Ok) : k'.vol ≠ 0 ∧ k'.D ≤ k.D := by
  have hp := h.pos
  have hv : k'.vol ≠ 0 := fun e => hk.nz (by rw [h.vol, e, Int.mul_zero])
  refine ⟨hv, ?_⟩
  have hD : 0 ≤ k'.D := by unfold Cn.D Cn.sg; split <;> omega
  rw [h.det]
  have := Int.mul_le_mul_of_nonneg_right hp hD
  omega
end
theorem Cn.prm_ok (hk : k.Ok) : k.prm.Ok := by
  obtain ⟨-, y0, -, d0, b0⟩ := ln3_dvd (Cn.ray_sm hk 0) (Cn.ray_ne hk 0)
  obtain ⟨-, y1, -, d1, b1⟩ := ln3_dvd (Cn.ray_sm hk 1) (Cn.ray_ne hk 1)
  obtain ⟨-, y2, -, d2, b2⟩ := ln3_dvd (Cn.ray_sm hk 2) (Cn.ray_ne hk 2)
  rw [← d0] at b0; rw [← d1] at b1; rw [← d2] at b2
  obtain ⟨h1, h2⟩ := (Cn.prm_i hk).ok hk
  exact ⟨b0.1, b0.2.1, b0.2.2, b1.1, b1.2.1, b1.2.2, b2.1, b2.2.1, b2.2.2, h1, Int.le_trans h2 hk.le⟩

theorem mon_fold (hk : k.Ok) {m : S3} (hm : k.Mon m) : k.Mon (k.fold m) ∧ k.Mon (sub3 m (k.fold m)) := by
  have hp := Cn.D_pos hk
  unfold Cn.Mon at *
  rw [Cn.own_sub, Cn.own_fold]
  have key : ∀ {a : Int}, 0 ≤ a → 0 ≤ a % k.D ∧ 0 ≤ a - a % k.D := by
    intro a ha
    have h1 := Int.emod_nonneg a (show k.D ≠ 0 by omega)
    have h2 := Int.emod_add_mul_ediv a k.D
    have h3 := Int.mul_nonneg (show 0 ≤ k.D by omega) (Int.ediv_nonneg ha (show 0 ≤ k.D by omega))
    omega
  exact ⟨⟨(key hm.1).1, (key hm.2.1).1, (key hm.2.2).1⟩, ⟨(key hm.1).2, (key hm.2.1).2, (key hm.2.2).2⟩⟩
theorem mon_ray (hk : k.Ok) {m : S3} (hm : k.Mon m) (hz : m ≠ z3) (hf : k.fold m = z3) : ∃ j, j < 3 ∧ k.Mon (sub3 m (k.ray j)) := by
  have hp := Cn.D_pos hk
  have h0 := Cn.own_fold k m
  rw [hf, Cn.own_zero] at h0
  simp only [mod3, Prod.mk.injEq] at h0
  have hne := Cn.own_ne hk hz
  unfold Cn.Mon NN at hm ⊢
  have key : ∀ {a : Int}, 0 ≤ a → 0 = a % k.D → a ≠ 0 → k.D ≤ a := by
    intro a h1 h2 h3
    have h4 := Int.emod_add_mul_ediv a k.D
    have h5 : 0 < a / k.D := by
      rcases Int.lt_or_le 0 (a / k.D) with h | h
      · exact h
      · have := Int.mul_le_mul_of_nonneg_left h (show 0 ≤ k.D by omega)
        omega
    have h6 := Int.mul_le_mul_of_nonneg_left (show 1 ≤ a / k.D by omega) (show 0 ≤ k.D by omega)
    omega
  by_cases h1 : (k.own m).1 = 0
  · by_cases h2 : (k.own m).2.1 = 0
    · have h3 : (k.own m).2.2 ≠ 0 := fun h3 => hne (s3_ext h1 h2 h3)
      refine ⟨2, by omega, ?_⟩
      have := key hm.2.2 h0.2.2 h3
      rw [Cn.own_sub, Cn.own_ray]
      simp only [sub3, mul3, unit3]; omega
    · refine ⟨1, by omega, ?_⟩
      have := key hm.2.1 h0.2.1 h2
      rw [Cn.own_sub, Cn.own_ray]
      simp only [sub3, mul3, unit3]; omega
  · refine ⟨0, by omega, ?_⟩
    have := key hm.1 h0.1 h1
    rw [Cn.own_sub, Cn.own_ray]
    simp only [sub3, mul3, unit3]; omega
theorem box_mon {m : S3} (h : k.Box (k.own m)) : k.Mon m := ⟨h.1.1, h.2.1.1, h.2.2.1⟩
theorem gen_all (hk : k.Ok) {G : List S3} (h1 : ∀ x, x ∈ G → k.Mon x ∧ x ≠ z3) (h2 : ∀ x, x ∈ boxL k → x ≠ z3 → x ∈ G) (h3 : ∀ j, j < 3 → ∃ q ∈ G, k.Mon (sub3 (k.ray j) q)) : k.Gen G := by
  refine ⟨h1, fun m hm hz => ?_⟩
  by_cases hf : k.fold m = z3
  · obtain ⟨j, hj, hr⟩ := mon_ray hk hm hz hf
    obtain ⟨q, hq, hq2⟩ := h3 j hj
    refine ⟨q, hq, ?_⟩
    have := Cn.mon_add hr hq2
    rwa [show add3 (sub3 m (k.ray j)) (sub3 (k.ray j) q) = sub3 m q from s3_ext (by simp [sub3, add3]; omega) (by simp [sub3, add3]; omega) (by simp [sub3, add3]; omega)] at this
  · exact ⟨k.fold m, h2 _ (fold_mem hk m) hf, (mon_fold hk hm).2⟩
theorem sub3_self (x : S3) : sub3 x x = z3 := s3_ext (by simp [sub3]) (by simp [sub3]) (by simp [sub3])
theorem mon_zero (k : Cn) : k.Mon z3 := by unfold Cn.Mon NN; rw [Cn.own_zero]; simp

def allS (k : Cn) : List S3 := insS (insS (insS (boxO k) (k.ray 0)) (k.ray 1)) (k.ray 2)
def bas (k : Cn) (A : List S3) (x : S3) : Bool := !decide (x = z3) && A.all fun y => decide (y = z3) || decide (sub3 x y = z3) || !nn3 (k.own (sub3 x y))
def hilO (k : Cn) : List S3 := (allS k.prm).filter (bas k.prm (allS k.prm))
theorem allS_asc (k : Cn) : Asc (allS k) := insS_asc (insS_asc (insS_asc (boxO_asc k) _) _) _
theorem allS_mem {x : S3} : x ∈ allS k ↔ x ∈ boxL k ∨ x = k.ray 0 ∨ x = k.ray 1 ∨ x = k.ray 2 := by
  unfold allS
  rw [insS_mem, insS_mem, insS_mem, boxO_mem]
  simp only [or_assoc]
theorem allS_len (hk : k.Ok) : (allS k).length ≤ 64000003 := by
  have h0 := boxO_len hk
  have hl : ∀ (l : List S3) (y : S3), (insS l y).length ≤ l.length + 1 := by
    intro l y
    unfold insS
    split
    · omega
    · have := atS_le y l
      simp only [List.length_append, List.length_take, List.length_drop, List.length_singleton]; omega
  unfold allS
  have h1 := hl (boxO k) (k.ray 0)
  have h2 := hl (insS (boxO k) (k.ray 0)) (k.ray 1)
  have h3 := hl (insS (insS (boxO k) (k.ray 0)) (k.ray 1)) (k.ray 2)
  omega
theorem gen_spec (hk : k.Ok) : k.Gen ((allS k).filter fun x => !decide (x = z3)) := by
  refine gen_all hk (fun x hx => ?_) (fun x hx hz => ?_) (fun j hj => ⟨k.ray j, ?_, ?_⟩)
  · obtain ⟨h1, h2⟩ := List.mem_filter.1 hx
    refine ⟨?_, by simpa using h2⟩
    rcases allS_mem.1 h1 with h | rfl | rfl | rfl
    · exact box_mon ((boxL_ok hk).box x h)
    · exact Cn.ray_mon hk 0
    · exact Cn.ray_mon hk 1
    · exact Cn.ray_mon hk 2
  · exact List.mem_filter.2 ⟨allS_mem.2 (.inl hx), by simpa using hz⟩
  · refine List.mem_filter.2 ⟨allS_mem.2 (.inr ?_), by simpa using Cn.ray_ne hk j⟩
    have : j = 0 ∨ j = 1 ∨ j = 2 := by omega
    rcases this with rfl | rfl | rfl
    · exact .inl rfl
    · exact .inr (.inl rfl)
    · exact .inr (.inr rfl)
  · rw [sub3_self]; exact mon_zero k
theorem sub3_zero {x y : S3} : sub3 x y = z3 ↔ y = x := by
  constructor
  · intro e
    simp only [sub3, Prod.mk.injEq] at e
    exact s3_ext (by omega) (by omega) (by omega)
  · rintro rfl; exact sub3_self _
theorem bas_iff {A : List S3} {x : S3} : (x ∈ A ∧ bas k A x = true) ↔ (x ∈ A.filter (fun x => !decide (x = z3)) ∧ ∀ q ∈ A.filter (fun x => !decide (x = z3)), q ≠ x → ¬ k.Mon (sub3 x q)) := by
  unfold bas
  simp only [Bool.and_eq_true, List.all_eq_true, Bool.or_eq_true, decide_eq_true_eq, Bool.not_eq_true', List.mem_filter, decide_eq_false_iff_not, sub3_zero]
  constructor
  · rintro ⟨h1, h2, h3⟩
    refine ⟨⟨h1, h2⟩, fun q hq hne hm => ?_⟩
    rcases h3 q hq.1 with (h | h) | h
    · exact hq.2 h
    · exact hne h
    · rw [nn3_iff.2 hm] at h; cases h
  · rintro ⟨⟨h1, h2⟩, h3⟩
    refine ⟨h1, h2, fun y hy => ?_⟩
    by_cases hy0 : y = z3
    · exact .inl (.inl hy0)
    · by_cases hyx : y = x
      · exact .inl (.inr hyx)
      · refine .inr ?_
        have := h3 y ⟨hy, hy0⟩ hyx
        cases hb : nn3 (k.own (sub3 x y))
        · rfl
        · exact absurd (nn3_iff.1 hb) this
theorem hilO_mem (hk : k.Ok) {x : S3} : x ∈ hilO k ↔ k.Irr x := by
  unfold hilO
  rw [List.mem_filter, bas_iff, irr_iff (Cn.prm_ok hk) (gen_spec (Cn.prm_ok hk)), ← (Cn.prm_i hk).irr]
theorem hilO_asc (k : Cn) : Asc (hilO k) := List.Pairwise.sublist (List.filter_sublist ..) (allS_asc _)

def ray1 (k : Cn) (j : Nat) : List S3 := if ln3 (k.ray j) = 1 then [k.ray j] else []
def genI (k : Cn) : List S3 := (boxL k).tail ++ ray1 k 0 ++ ray1 k 1 ++ ray1 k 2
def hb (x y : S3) : Bool := !decide (y = x) && nn3 (sub3 x y)
def hilI (k : Cn) : List S3 := (genI k).filter fun p => !((genI k).any fun q => hb (k.own p) (k.own q))
theorem ray1_mem {x : S3} {j : Nat} : x ∈ ray1 k j ↔ x = k.ray j ∧ ln3 (k.ray j) = 1 := by
  unfold ray1
  split <;> simp [*]
theorem boxL_cons (k : Cn) : boxL k = z3 :: (boxL k).tail := by
  obtain ⟨t, ht⟩ := (bfs_closed (nx := k.nxS) (bigN + 1) 0 [z3]).1
  have : boxL k = z3 :: t := ht.symm
  rw [this]; rfl
theorem tail_mem (hk : k.Ok) {x : S3} : x ∈ (boxL k).tail ↔ x ∈ boxL k ∧ x ≠ z3 := by
  have hn := (boxL_ok hk).nd
  rw [boxL_cons, List.nodup_cons] at hn
  constructor
  · intro h
    exact ⟨by rw [boxL_cons]; exact List.mem_cons_of_mem _ h, fun e => hn.1 (e ▸ h)⟩
  · rintro ⟨h, hz⟩
    rw [boxL_cons] at h
    rcases List.mem_cons.1 h with e | h
    · exact absurd e hz
    · exact h
theorem genI_mem (hk : k.Ok) {x : S3} : x ∈ genI k ↔ (x ∈ boxL k ∧ x ≠ z3) ∨ ∃ j, j < 3 ∧ x = k.ray j ∧ ln3 (k.ray j) = 1 := by
  unfold genI
  simp only [List.mem_append, tail_mem hk, ray1_mem, or_assoc]
  constructor
  · rintro (h | h | h | h)
    · exact .inl h
    · exact .inr ⟨0, by omega, h⟩
    · exact .inr ⟨1, by omega, h⟩
    · exact .inr ⟨2, by omega, h⟩
  · rintro (h | ⟨j, hj, h⟩)
    · exact .inl h
    · have : j = 0 ∨ j = 1 ∨ j = 2 := by omega
      rcases this with rfl | rfl | rfl
      · exact .inr (.inl h)
      · exact .inr (.inr (.inl h))
      · exact .inr (.inr (.inr h))
theorem gen_impl (hk : k.Ok) : k.Gen (genI k) := by
  have hp := Cn.D_pos hk
  refine gen_all hk (fun x hx => ?_) (fun x hx hz => (genI_mem hk).2 (.inl ⟨hx, hz⟩)) (fun j hj => ?_)
  · rcases (genI_mem hk).1 hx with ⟨h, hz⟩ | ⟨j, -, rfl, -⟩
    · exact ⟨box_mon ((boxL_ok hk).box x h), hz⟩
    · exact ⟨Cn.ray_mon hk j, Cn.ray_ne hk j⟩
  · by_cases hl : ln3 (k.ray j) = 1
    · exact ⟨k.ray j, (genI_mem hk).2 (.inr ⟨j, hj, rfl, hl⟩), by rw [sub3_self]; exact mon_zero k⟩
    · obtain ⟨p0, y, e0, -, -⟩ := ln3_dvd (Cn.ray_sm hk j) (Cn.ray_ne hk j)
      generalize ln3 (k.ray j) = l at hl p0 e0
      have e1 : mul3 k.D (unit3 j) = mul3 l (k.own y) := by rw [← Cn.own_ray, e0, Cn.own_mul]
      have key : ∀ {u w : Int}, (u = 0 ∨ u = 1) → k.D * u = l * w → (0 ≤ w ∧ w < k.D) ∧ 0 ≤ k.D * u - w := by
        intro u w hu he
        have hl2 : 2 ≤ l := by omega
        rcases hu with rfl | rfl
        · rw [Int.mul_zero] at he
          have : w = 0 := by
            rcases Int.mul_eq_zero.1 he.symm with h | h
            · omega
            · exact h
          omega
        · rw [Int.mul_one] at he ⊢
          have hw : 0 < w := by
            refine Classical.byContradiction fun hn => ?_
            have := Int.mul_le_mul_of_nonneg_left (show w ≤ 0 by omega) (show 0 ≤ l by omega)
            omega
          have := Int.mul_le_mul_of_nonneg_right hl2 (show 0 ≤ w by omega)
          omega
      have hu : ((unit3 j).1 = 0 ∨ (unit3 j).1 = 1) ∧ ((unit3 j).2.1 = 0 ∨ (unit3 j).2.1 = 1) ∧ ((unit3 j).2.2 = 0 ∨ (unit3 j).2.2 = 1) := by
        match j with
        | 0 => decide
        | 1 => decide
        | _ + 2 => exact ⟨.inl rfl, .inl rfl, .inr rfl⟩
      have e2 := e1
      simp only [mul3, Prod.mk.injEq] at e2
      have k1 := key hu.1 e2.1
      have k2 := key hu.2.1 e2.2.1
      have k3 := key hu.2.2 e2.2.2
      refine ⟨y, (genI_mem hk).2 (.inl ⟨box_mem hk ⟨k1.1, k2.1, k3.1⟩, fun h0 => ?_⟩), ?_⟩
      · refine Cn.ray_ne hk j ?_
        rw [e0, h0]
        simp [mul3]
      · unfold Cn.Mon
        rw [Cn.own_sub, Cn.own_ray]
        exact ⟨k1.2, k2.2, k3.2⟩
theorem hb_own (hk : k.Ok) {p q : S3} : hb (k.own p) (k.own q) = true ↔ q ≠ p ∧ k.Mon (sub3 p q) := by
  unfold hb Cn.Mon
  rw [Bool.and_eq_true, nn3_iff, Cn.own_sub]
  simp only [Bool.not_eq_true', decide_eq_false_iff_not]
  constructor
  · rintro ⟨h1, h2⟩; exact ⟨fun e => h1 (by rw [e]), h2⟩
  · rintro ⟨h1, h2⟩; exact ⟨fun e => h1 (Cn.own_inj hk e), h2⟩
theorem hilI_mem (hk : k.Ok) {x : S3} : x ∈ hilI k ↔ k.Irr x := by
  rw [← irr_iff hk (gen_impl hk)]
  unfold hilI
  rw [List.mem_filter, Bool.not_eq_true', ← Bool.not_eq_true, List.any_eq_true]
  constructor
  · rintro ⟨h1, h2⟩
    exact ⟨h1, fun q hq hne hm => h2 ⟨q, hq, (hb_own hk).2 ⟨hne, hm⟩⟩⟩
  · rintro ⟨h1, h2⟩
    refine ⟨h1, ?_⟩
    rintro ⟨q, hq, hb⟩
    obtain ⟨h3, h4⟩ := (hb_own hk).1 hb
    exact h2 q hq h3 h4
theorem filt_map (f : S3 → S3) (r : S3 → S3 → Bool) (G : List S3) : (G.map f).filter (fun x => !((G.map f).any fun y => r x y)) = (G.filter fun p => !(G.any fun q => r (f p) (f q))).map f := by
  rw [List.filter_map]
  refine congrArg (List.map f) (List.filter_congr fun p hp => ?_)
  simp only [Function.comp, List.any_map]
  rfl
theorem hilI_map (k : Cn) : ((genI k).map k.own).filter (fun x => !(((genI k).map k.own).any fun y => hb x y)) = (hilI k).map k.own := filt_map k.own hb (genI k)
theorem ray_unit (j : Nat) (hj : j < 3) : unit3 j = if j = 0 then (1, 0, 0) else if j = 1 then (0, 1, 0) else (0, 0, 1) := by
  have : j = 0 ∨ j = 1 ∨ j = 2 := by omega
  rcases this with rfl | rfl | rfl <;> rfl
theorem ray_nbox (hk : k.Ok) (j : Nat) : k.ray j ∉ boxL k := fun h => by
  have hp := Cn.D_pos hk
  have := (boxL_ok hk).box _ h
  rw [Cn.own_ray] at this
  unfold Cn.Box mul3 at this
  match j with
  | 0 => simp only [unit3] at this; omega
  | 1 => simp only [unit3] at this; omega
  | _ + 2 => simp only [unit3] at this; omega
theorem ray_inj (hk : k.Ok) {i j : Nat} (hi : i < 3) (hj : j < 3) (h : k.ray i = k.ray j) : i = j := by
  have hp := Cn.D_pos hk
  have hn : k.D ≠ 0 := by omega
  have e := congrArg k.own h
  rw [Cn.own_ray, Cn.own_ray] at e
  simp only [mul3, Prod.mk.injEq] at e
  have e2 : unit3 i = unit3 j := s3_ext (Int.eq_of_mul_eq_mul_left hn e.1) (Int.eq_of_mul_eq_mul_left hn e.2.1) (Int.eq_of_mul_eq_mul_left hn e.2.2)
  have key : ∀ a < 3, ∀ b < 3, unit3 a = unit3 b → a = b := by decide
  exact key i hi j hj e2
theorem ray1_nd (j : Nat) : (ray1 k j).Nodup := by unfold ray1; split <;> simp
theorem genI_nd (hk : k.Ok) : (genI k).Nodup := by
  have hb : (boxL k).tail.Nodup := List.Nodup.sublist (List.tail_sublist _) (boxL_ok hk).nd
  unfold genI
  refine List.nodup_append.2 ⟨List.nodup_append.2 ⟨List.nodup_append.2 ⟨hb, ray1_nd 0, ?_⟩, ray1_nd 1, ?_⟩, ray1_nd 2, ?_⟩
  · rintro a ha b hb rfl
    obtain ⟨rfl, -⟩ := ray1_mem.1 hb
    exact ray_nbox hk 0 ((tail_mem hk).1 ha).1
  · rintro a ha b hb rfl
    obtain ⟨rfl, -⟩ := ray1_mem.1 hb
    rcases List.mem_append.1 ha with ha | ha
    · exact ray_nbox hk 1 ((tail_mem hk).1 ha).1
    · have := ray_inj hk (by omega) (by omega) (ray1_mem.1 ha).1; omega
  · rintro a ha b hb rfl
    obtain ⟨rfl, -⟩ := ray1_mem.1 hb
    rcases List.mem_append.1 ha with ha | ha
    · rcases List.mem_append.1 ha with ha | ha
      · exact ray_nbox hk 2 ((tail_mem hk).1 ha).1
      · have := ray_inj hk (by omega) (by omega) (ray1_mem.1 ha).1; omega
    · have := ray_inj hk (by omega) (by omega) (ray1_mem.1 ha).1; omega
theorem hilI_nd (hk : k.Ok) : (hilI k).Nodup := (genI_nd hk).filter _
theorem hil_eq (hk : k.Ok) {l : List S3} (hp : l.Perm (hilI k)) (hs : l.Pairwise (fun x y => lt3 y x = false)) : l = hilO k := by
  refine asc_uniq (asc_perm hp hs (hilI_nd hk)) (hilO_asc k) fun x => ?_
  rw [hp.mem_iff, hilI_mem hk, hilO_mem hk]
end
end Go.Ev
end

section
/-
  What deleting from a row of spots keeps; the first spot with a property.
  Conditions: none.
-/
set_option linter.unusedVariables false
set_option linter.unusedSimpArgs false
namespace Go.Ev
open Go.RowKit

theorem RowO.at3 {C : List Value} {o n c : Nat} {L : List S3} (h : RowO C o (sl L) n c 3) {off i : Nat} (ho : off = o + i * 3) (hi : i < L.length) : List.take 3 (List.drop off C) = [iv (L.getD i (0, 0, 0)).1, iv (L.getD i (0, 0, 0)).2.1, iv (L.getD i (0, 0, 0)).2.2] := by
  obtain ⟨pre, sp, suf, rfl, rfl, hr, h1, h2⟩ := h.ex
  subst ho
  rw [List.append_assoc, List.append_assoc, ← List.drop_drop, List.drop_left]
  exact take_sp rfl hi

structure FirS (p : S3 → Bool) (L : List S3) (i : Int) : Prop where
  lo : 0 ≤ i
  hi : i ≤ (L.length : Int)
  no : ∀ j : Nat, (j : Int) < i → p (L.getD j (0, 0, 0)) = false
inductive IdxR (p : S3 → Bool) (L : List S3) : Int → Prop
  | none (h : ∀ j : Nat, j < L.length → p (L.getD j (0, 0, 0)) = false) : IdxR p L (-1)
  | some {r : Int} (h0 : 0 ≤ r) (h1 : r < (L.length : Int)) (hp : p (L.getD r.toNat (0, 0, 0)) = true) (h : ∀ j : Nat, (j : Int) < r → p (L.getD j (0, 0, 0)) = false) : IdxR p L r
section
variable {p : S3 → Bool} {L : List S3} {i r : Int}
theorem FirS.start : FirS p L 0 := ⟨by omega, by omega, fun j hj => by omega⟩
theorem FirS.next (h : FirS p L i) (hi : i < (L.length : Int)) (hl : L.length ≤ 100000000) (hp : p (L.getD i.toNat (0, 0, 0)) = false) : FirS p L (w64 (i + 1)) := by
  have h0 := h.lo
  rw [w64_in (by omega) (by omega)]
  refine ⟨by omega, by omega, fun j hj => ?_⟩
  by_cases e : (j : Int) = i
  · rw [show j = i.toNat by omega]; exact hp
  · exact h.no j (by omega)
theorem FirS.mu (h : FirS p L i) (hi : i < (L.length : Int)) (hl : L.length ≤ 100000000) : ((L.length : Int) - w64 (i + 1)).toNat < ((L.length : Int) - i).toNat := by
  have h0 := h.lo
  rw [w64_in (by omega) (by omega)]; omega
theorem FirS.hit (h : FirS p L i) (hi : i < (L.length : Int)) (hp : p (L.getD i.toNat (0, 0, 0)) = true) : IdxR p L i := .some h.lo hi hp h.no
theorem FirS.fin (h : FirS p L i) (hi : ¬ i < (L.length : Int)) : IdxR p L (-1) := .none fun j hj => h.no j (by omega)
theorem getD_in {j : Nat} (h : j < L.length) : L.getD j (0, 0, 0) ∈ L := by
  rw [show L.getD j (0, 0, 0) = L[j] by simp [List.getD, List.getElem?_eq_getElem h]]
  exact List.getElem_mem h
theorem IdxR.any (h : IdxR p L r) : decide (r ≥ 0) = L.any p := by
  cases h with
  | none h =>
    symm
    show L.any p = false
    rw [List.any_eq_false]
    intro x hx
    obtain ⟨j, hj, rfl⟩ := List.getElem_of_mem hx
    have := h j hj
    rw [show L.getD j (0, 0, 0) = L[j] by simp [List.getD, List.getElem?_eq_getElem hj]] at this
    simp [this]
  | some h0 h1 hp h =>
    rw [decide_eq_true h0]
    symm
    exact List.any_eq_true.2 ⟨_, getD_in (by omega), hp⟩
theorem IdxR.all (h : IdxR p L r) (hr : r = -1) : L.filter (fun x => !p x) = L := by
  cases h with
  | none h =>
    refine List.filter_eq_self.2 fun x hx => ?_
    obtain ⟨j, hj, rfl⟩ := List.getElem_of_mem hx
    have := h j hj
    rw [show L.getD j (0, 0, 0) = L[j] by simp [List.getD, List.getElem?_eq_getElem hj]] at this
    simp [this]
  | some h0 h1 hp h => omega
end

structure DelI (p : S3 → Bool) (L : List S3) (sp C : List Value) (i j : Int) : Prop where
  lo : 0 ≤ i
  lt : i < j
  hi : j ≤ (L.length : Int)
  len : C.length = (sl L ++ sp).length
  pl : Plain C
  cnt : i.toNat = ((L.take j.toNat).filter fun x => !p x).length
  pre : C.take (i.toNat * 3) = sl ((L.take j.toNat).filter fun x => !p x)
  suf : C.drop (j.toNat * 3) = (sl L ++ sp).drop (j.toNat * 3)
section
variable {p : S3 → Bool} {L : List S3} {sp C : List Value} {i j r : Int} {n c : Nat}
theorem take_filter_next {j : Nat} (h : j < L.length) : (L.take (j + 1)).filter (fun x => !p x) = (L.take j).filter (fun x => !p x) ++ (if p (L.getD j (0, 0, 0)) = true then [] else [L.getD j (0, 0, 0)]) := by
  rw [List.take_add_one, List.getElem?_eq_getElem h, List.filter_append]
  rw [show L.getD j (0, 0, 0) = L[j] by simp [List.getD, List.getElem?_eq_getElem h]]
  cases hp : p L[j] <;> simp [hp]
theorem DelI.start (h1 : Row (sl L) sp n c 3) (h : IdxR p L r) (hr : ¬ r = -1) (hl : L.length ≤ 100000000) : DelI p L sp (sl L ++ sp) r (w64 (r + 1)) := by
  cases h with
  | none h => exact absurd rfl hr
  | some h0 h2 hp h =>
    rw [w64_in (by omega) (by omega)]
    have hlt : r.toNat < L.length := by omega
    have e : (L.take (r + 1).toNat).filter (fun x => !p x) = L.take r.toNat := by
      rw [show (r + 1).toNat = r.toNat + 1 by omega, take_filter_next hlt, if_pos hp, List.append_nil]
      refine List.filter_eq_self.2 fun x hx => ?_
      obtain ⟨j, hj, rfl⟩ := List.getElem_of_mem hx
      rw [List.length_take] at hj
      have := h j (by omega)
      rw [show L.getD j (0, 0, 0) = L[j] by simp [List.getD, List.getElem?_eq_getElem (show j < L.length by omega)]] at this
      simp [this]
    refine ⟨h0, by omega, by omega, rfl, h1.all, ?_, ?_, rfl⟩
    · rw [e, List.length_take]; omega
    · rw [e]
      have := take_head (L := L) (sp := sp) (i := r.toNat) (by omega)
      rwa [List.drop_zero] at this
theorem DelI.at_ (h : DelI p L sp C i j) (hj : j < (L.length : Int)) {off : Nat} (ho : off = j.toNat * 3) : List.take 3 (List.drop off C) = [iv (L.getD j.toNat (0, 0, 0)).1, iv (L.getD j.toNat (0, 0, 0)).2.1, iv (L.getD j.toNat (0, 0, 0)).2.2] := by
  have h1 := h.lo; have h2 := h.lt
  subst ho
  rw [h.suf]
  exact take_sp rfl (by omega)
theorem DelI.mu (h : DelI p L sp C i j) (hj : j < (L.length : Int)) (hl : L.length ≤ 100000000) : ((L.length : Int) - w64 (j + 1)).toNat < ((L.length : Int) - j).toNat := by
  have h1 := h.lo; have h2 := h.lt
  rw [w64_in (by omega) (by omega)]; omega
theorem drop_more {C D : List Value} {a b : Nat} (h : C.drop a = D.drop a) (hab : a ≤ b) : C.drop b = D.drop b := by
  obtain ⟨t, rfl⟩ : ∃ t, b = a + t := ⟨b - a, by omega⟩
  rw [← List.drop_drop, ← List.drop_drop, h]
theorem DelI.skip (h : DelI p L sp C i j) (hj : j < (L.length : Int)) (hl : L.length ≤ 100000000) (hp : p (L.getD j.toNat (0, 0, 0)) = true) : DelI p L sp C i (w64 (j + 1)) := by
  have h1 := h.lo; have h2 := h.lt
  have hlt : j.toNat < L.length := by omega
  rw [w64_in (by omega) (by omega)]
  have e : (L.take (j + 1).toNat).filter (fun x => !p x) = (L.take j.toNat).filter (fun x => !p x) := by
    rw [show (j + 1).toNat = j.toNat + 1 by omega, take_filter_next hlt, if_pos hp, List.append_nil]
  exact ⟨h1, by omega, by omega, h.len, h.pl, by rw [e]; exact h.cnt, by rw [e]; exact h.pre, drop_more h.suf (by omega)⟩
theorem DelI.keep (h : DelI p L sp C i j) (h1 : Row (sl L) sp n c 3) (hj : j < (L.length : Int)) (hl : L.length ≤ 100000000) (hp : p (L.getD j.toNat (0, 0, 0)) = false) {off : Nat} (ho : off = i.toNat * 3) {D : List Value}
    (hD : D = C.take off ++ [iv (L.getD j.toNat (0, 0, 0)).1, iv (L.getD j.toNat (0, 0, 0)).2.1, iv (L.getD j.toNat (0, 0, 0)).2.2] ++ C.drop (off + 3)) : DelI p L sp D (w64 (i + 1)) (w64 (j + 1)) := by
  have h3 := h.lo; have h2 := h.lt
  have hlt : j.toNat < L.length := by omega
  subst ho hD
  rw [w64_in (by omega) (by omega), w64_in (by omega) (by omega)]
  have e : (L.take (j + 1).toNat).filter (fun x => !p x) = (L.take j.toNat).filter (fun x => !p x) ++ [L.getD j.toNat (0, 0, 0)] := by
    rw [show (j + 1).toNat = j.toNat + 1 by omega, take_filter_next hlt, if_neg (by rw [hp]; exact Bool.false_ne_true)]
  have hln : (sl L).length = L.length * 3 := sl_len L
  have hC : L.length * 3 ≤ C.length := by rw [h.len, List.length_append]; omega
  have hi3 : i.toNat * 3 + 3 ≤ j.toNat * 3 := by omega
  have hj3 : j.toNat * 3 + 3 ≤ L.length * 3 := by omega
  have lt_ : (C.take (i.toNat * 3)).length = i.toNat * 3 := by rw [List.length_take]; omega
  refine ⟨by omega, by omega, by omega, ?_, ?_, ?_, ?_, ?_⟩
  · rw [← h.len]
    simp only [List.length_append, lt_, List.length_drop, List.length_cons, List.length_nil]; omega
  · intro v hv
    rcases List.mem_append.1 hv with hv | hv
    · rcases List.mem_append.1 hv with hv | hv
      · exact h.pl v (List.mem_of_mem_take hv)
      · exact (Plain.of rfl : Plain [iv (L.getD j.toNat (0, 0, 0)).1, iv (L.getD j.toNat (0, 0, 0)).2.1, iv (L.getD j.toNat (0, 0, 0)).2.2]) v hv
    · exact h.pl v (List.mem_of_mem_drop hv)
  · rw [e, List.length_append, ← h.cnt]; simp; omega
  · rw [e, sl_snoc, ← h.pre]
    have : (i + 1).toNat * 3 = (C.take (i.toNat * 3) ++ [iv (L.getD j.toNat (0, 0, 0)).1, iv (L.getD j.toNat (0, 0, 0)).2.1, iv (L.getD j.toNat (0, 0, 0)).2.2]).length := by
      rw [List.length_append, lt_]; simp; omega
    rw [this, List.take_left]
  · have hle : (C.take (i.toNat * 3) ++ [iv (L.getD j.toNat (0, 0, 0)).1, iv (L.getD j.toNat (0, 0, 0)).2.1, iv (L.getD j.toNat (0, 0, 0)).2.2]).length = i.toNat * 3 + 3 := by
      rw [List.length_append, lt_]; rfl
    have e3 : i.toNat * 3 + 3 + ((j + 1).toNat * 3 - (i.toNat * 3 + 3)) = (j + 1).toNat * 3 := by omega
    rw [List.drop_append, hle, List.drop_drop, e3, List.drop_of_length_le (by rw [hle]; omega), List.nil_append]
    exact drop_more h.suf (by omega)
theorem DelI.fin (h : DelI p L sp C i j) (h1 : Row (sl L) sp n c 3) (hj : ¬ j < (L.length : Int)) {off m : Nat} {Z D : List Value} (hZ : Plain Z) (hl : Z.length = m * 3) (ho : (m = 0 ∧ Z = []) ∨ off = i.toNat * 3) (hm : m = L.length - i.toNat)
    (hD : D = C.take off ++ Z ++ C.drop (off + m * 3)) : ∃ s2, D = sl (L.filter fun x => !p x) ++ s2 ∧ Row (sl (L.filter fun x => !p x)) s2 i.toNat c 3 := by
  have h3 := h.lo; have h2 := h.lt; have h4 := h.hi
  have ej : j.toNat = L.length := by omega
  have hpre := h.pre
  have hcnt := h.cnt
  rw [ej, List.take_length] at hpre hcnt
  have hcap := h1.cap
  have hC : C.length = c * 3 := by rw [h.len, List.length_append]; exact hcap
  have hDC : D.length = C.length ∧ D.take (i.toNat * 3) = C.take (i.toNat * 3) ∧ Plain D := by
    have hm3 : m * 3 = L.length * 3 - i.toNat * 3 := by omega
    have hln : (sl L).length = L.length * 3 := sl_len L
    rcases ho with ⟨rfl, rfl⟩ | rfl
    · have : D = C := by rw [hD]; simp
      rw [this]; exact ⟨rfl, rfl, h.pl⟩
    · have lt_ : (C.take (i.toNat * 3)).length = i.toNat * 3 := by rw [List.length_take]; omega
      refine ⟨?_, ?_, ?_⟩
      · rw [hD]
        simp only [List.length_append, lt_, hl, List.length_drop]; omega
      · rw [hD, List.append_assoc, List.take_append_of_le_length (by omega), List.take_take, Nat.min_self]
      · rw [hD]
        intro v hv
        rcases List.mem_append.1 hv with hv | hv
        · rcases List.mem_append.1 hv with hv | hv
          · exact h.pl v (List.mem_of_mem_take hv)
          · exact hZ v hv
        · exact h.pl v (List.mem_of_mem_drop hv)
  refine ⟨D.drop (i.toNat * 3), ?_, ?_⟩
  · rw [← hpre, ← hDC.2.1, List.take_append_drop]
  · refine ⟨by rw [sl_len, ← hcnt], ?_, sl_plain _, fun v hv => hDC.2.2 v (List.mem_of_mem_drop hv)⟩
    rw [sl_len, ← hcnt, List.length_drop, hDC.1, hC]
    have : i.toNat * 3 ≤ C.length := by
      have e := congrArg List.length hpre
      rw [List.length_take, sl_len, ← hcnt] at e
      omega
    omega
theorem DelI.room (h : DelI p L sp C i j) (hj : j < (L.length : Int)) : 0 + i.toNat * 3 + 3 ≤ C.length := by
  have h3 := h.lo; have h2 := h.lt
  have hln : (sl L).length = L.length * 3 := sl_len L
  rw [h.len, List.length_append]; omega
theorem forceL_mk {α : Type} {l : List α} {k : List α → Prop} (h : k l) : forceL l k := by rw [forceL_eq]; exact h
theorem off_cases (c : Nat) : ∀ i : Nat, c = i ∨ offK c i 0 3 = i * 3
  | 0 => .inr rfl
  | i + 1 => by
    show c = i + 1 ∨ (match Nat.beq c (i + 1) with | true => 0 | false => 0 + (i + 1) * 3) = (i + 1) * 3
    cases hb : Nat.beq c (i + 1) with
    | true => exact .inl (Nat.eq_of_beq_eq_true hb)
    | false => exact .inr (by show 0 + (i + 1) * 3 = _; omega)
theorem DelI.fit (h : DelI p L sp C i j) (h1 : Row (sl L) sp n c 3) : offK c i.toNat 0 3 + subK L.length i.toNat * 3 ≤ C.length := by
  have h3 := h.lo; have h2 := h.lt; have h4 := h.hi
  have hcap := h1.cap
  have hln : (sl L).length = L.length * 3 := sl_len L
  rw [subK_eq, h.len, List.length_append]
  rcases off_cases c i.toNat with e | e
  · have : offK c i.toNat 0 3 ≤ i.toNat * 3 := by
      generalize i.toNat = m
      cases m with
      | zero => exact Nat.le_refl _
      | succ m =>
        show (match Nat.beq c (m + 1) with | true => 0 | false => 0 + (m + 1) * 3) ≤ _
        cases Nat.beq c (m + 1) with
        | true => exact Nat.zero_le _
        | false => show 0 + (m + 1) * 3 ≤ _; omega
    omega
  · omega
theorem DelI.fin2 (h : DelI p L sp C i j) (h1 : Row (sl L) sp n c 3) (hj : ¬ j < (L.length : Int)) {Z : List Value} (hZ : Plain Z) (hl : Z.length = subK L.length i.toNat * 3) :
    ∃ s2, C.take (offK c i.toNat 0 3) ++ Z ++ C.drop (offK c i.toNat 0 3 + subK L.length i.toNat * 3) = sl (L.filter fun x => !p x) ++ s2 ∧ Row (sl (L.filter fun x => !p x)) s2 i.toNat c 3 := by
  have h3 := h.lo; have h2 := h.lt; have h4 := h.hi
  have hcap := h1.cap
  have hln : (sl L).length = L.length * 3 := sl_len L
  refine h.fin h1 hj hZ hl ?_ (subK_eq _ _) rfl
  rcases off_cases c i.toNat with e | e
  · have hm : subK L.length i.toNat = 0 := by rw [subK_eq]; omega
    rw [hm] at hl
    exact .inl ⟨hm, List.length_eq_zero_iff.1 (by omega)⟩
  · exact .inr e
end

def hbF (x y : S3) : Bool := !decide (y = x) && nn3 (plusF x.1 (-1) y.1, plusF x.2.1 (-1) y.2.1, plusF x.2.2 (-1) y.2.2)
theorem hbF_eq {x y : S3} (hx : (0 ≤ x.1 ∧ x.1 ≤ 400) ∧ (0 ≤ x.2.1 ∧ x.2.1 ≤ 400) ∧ (0 ≤ x.2.2 ∧ x.2.2 ≤ 400)) (hy : (0 ≤ y.1 ∧ y.1 ≤ 400) ∧ (0 ≤ y.2.1 ∧ y.2.1 ≤ 400) ∧ (0 ≤ y.2.2 ∧ y.2.2 ≤ 400)) : hbF x y = hb x y := by
  unfold hbF hb
  rw [plus_in (by omega) (by omega), plus_in (by omega) (by omega), plus_in (by omega) (by omega)]
  congr 2
  exact s3_ext (by simp only [sub3]; omega) (by simp only [sub3]; omega) (by simp only [sub3]; omega)
theorem hbF_t {x y : S3} (h : eqCells #[iv y.1, iv y.2.1, iv y.2.2].toList #[iv x.1, iv x.2.1, iv x.2.2].toList = true) : false = hbF x y := by
  have : y = x := eq3_cells.1 h
  unfold hbF
  rw [decide_eq_true this]
  rfl
theorem hbF_f {x y : S3} (h : eqCells #[iv y.1, iv y.2.1, iv y.2.2].toList #[iv x.1, iv x.2.1, iv x.2.2].toList = false) : (decide (plusF x.1 (-1) y.1 ≥ 0) && decide (plusF x.2.1 (-1) y.2.1 ≥ 0) && decide (plusF x.2.2 (-1) y.2.2 ≥ 0)) = hbF x y := by
  have hn : y ≠ x := fun e => by rw [eq3_cells.2 (show (y.1, y.2.1, y.2.2) = (x.1, x.2.1, x.2.2) from e)] at h; cases h
  unfold hbF nn3
  rw [decide_eq_false hn]
  rfl
def genN (k : Cn) : Nat → List S3
  | 0 => (boxL k).tail
  | j + 1 => genN k j ++ ray1 k j
theorem genN_three (k : Cn) : genN k 3 = genI k := rfl
section
variable {k : Cn}
theorem genI_spl (hk : k.Ok) : SpL k (genI k) := by
  have hd := Cn.D_le hk
  refine ⟨?_, fun x hx => ?_⟩
  · have hl := (boxL_ok hk).len hk
    have hr : ∀ j, (ray1 k j).length ≤ 1 := fun j => by unfold ray1; split <;> simp
    have h0 := hr 0; have h1 := hr 1; have h2 := hr 2
    unfold genI
    simp only [List.length_append, List.length_tail]; omega
  · rcases (genI_mem hk).1 hx with ⟨h, -⟩ | ⟨j, hj, rfl, -⟩
    · exact ((boxL_ok hk).box x h).le
    · rw [Cn.own_ray]
      have : j = 0 ∨ j = 1 ∨ j = 2 := by omega
      rcases this with rfl | rfl | rfl <;> (unfold Cn.BoxD; simp only [mul3, unit3]; omega)
theorem hilI_spl (hk : k.Ok) : SpL k (hilI k) := by
  have h := genI_spl hk
  refine ⟨Nat.le_trans (List.length_filter_le ..) h.le, fun x hx => h.box x (List.mem_filter.1 hx).1⟩
theorem hilF (hk : k.Ok) : ((genI k).map k.own).filter (fun x => !(((genI k).map k.own).any fun y => hbF x y)) = (hilI k).map k.own := by
  rw [← hilI_map]
  have hd := Cn.D_le hk
  have hb : ∀ x ∈ (genI k).map k.own, (0 ≤ x.1 ∧ x.1 ≤ 400) ∧ (0 ≤ x.2.1 ∧ x.2.1 ≤ 400) ∧ (0 ≤ x.2.2 ∧ x.2.2 ≤ 400) := by
    intro x hx
    obtain ⟨p, hp, rfl⟩ := List.mem_map.1 hx
    have := (genI_spl hk).box p hp
    unfold Cn.BoxD at this
    omega
  refine List.filter_congr fun x hx => ?_
  congr 1
  rw [Bool.eq_iff_iff, List.any_eq_true, List.any_eq_true]
  constructor
  · rintro ⟨y, hy, h⟩; exact ⟨y, hy, by rwa [← hbF_eq (hb x hx) (hb y hy)]⟩
  · rintro ⟨y, hy, h⟩; exact ⟨y, hy, by rwa [hbF_eq (hb x hx) (hb y hy)]⟩
theorem genN_len (hk : k.Ok) : ∀ j, (genN k j).length ≤ 64000000 + j
  | 0 => by
    have hl := (boxL_ok hk).len hk
    show (boxL k).tail.length ≤ _
    rw [List.length_tail]; omega
  | j + 1 => by
    have := genN_len hk j
    have hr : (ray1 k j).length ≤ 1 := by unfold ray1; split <;> simp
    show (genN k j ++ ray1 k j).length ≤ _
    rw [List.length_append]; omega
end

theorem subK_one (n : Nat) : subK n 1 = n - 1 := subK_eq n 1
theorem RowO.tail {L : List S3} {sp : List Value} {n c : Nat} {x : S3} (h : Row (sl (x :: L)) sp n c 3) : RowO (sl (x :: L) ++ sp) (offK c 1 0 3) (sl L) (subK n 1) (subK c 1) 3 := by
  have hl := h.len; have hc := h.cap
  have hln : (sl L).length = L.length * 3 := sl_len L
  rw [sl_len] at hl hc
  simp only [List.length_cons] at hl hc
  rw [subK_one, subK_one]
  rcases off_cases c 1 with e | e
  · have h0 : L.length = 0 := by omega
    obtain rfl := List.length_eq_zero_iff.1 h0
    have ho : offK c 1 0 3 = 0 := by rw [e]; rfl
    rw [ho]
    exact ⟨[], [], sl [x] ++ sp, by simp [sl_nil], rfl, ⟨by simp [sl_nil]; omega, by simp [sl_nil]; omega, Plain.nil, Plain.nil⟩, Plain.nil, h.all⟩
  · rw [e]
    refine ⟨[iv x.1, iv x.2.1, iv x.2.2], sp, [], by simp [sl_cons], rfl, ⟨by omega, by omega, sl_plain _, h.ps⟩, Plain.of rfl, Plain.nil⟩
section
variable {k : Cn}
theorem tail_row (hk : k.Ok) {sp : List Value} {n c : Nat} (h : Row (sl ((boxL k).map k.own)) sp n c 3) : RowO (sl ((boxL k).map k.own) ++ sp) (offK c 1 0 3) (sl ((genN k 0).map k.own)) (subK n 1) (subK c 1) 3 := by
  have e : (boxL k).map k.own = k.own z3 :: (genN k 0).map k.own := by
    show _ = k.own z3 :: ((boxL k).tail).map k.own
    rw [← List.map_cons, ← boxL_cons]
  rw [e] at h ⊢
  exact RowO.tail h
theorem ray1_yes {j : Nat} (h : ln3 (k.ray j) = 1) : genN k (j + 1) = genN k j ++ [k.ray j] := by
  show genN k j ++ ray1 k j = _
  unfold ray1; rw [if_pos h]
theorem ray1_no {j : Nat} (h : ¬ ln3 (k.ray j) = 1) : genN k (j + 1) = genN k j := by
  show genN k j ++ ray1 k j = _
  unfold ray1; rw [if_neg h, List.append_nil]
theorem gen_row {j : Nat} (h : ln3 (k.ray j) = 1) : sl ((genN k (j + 1)).map k.own) = sl ((genN k j).map k.own) ++ [iv (k.D * (unit3 j).1), iv (k.D * (unit3 j).2.1), iv (k.D * (unit3 j).2.2)] := by
  rw [ray1_yes h, List.map_append, List.map_cons, List.map_nil, sl_snoc, Cn.own_ray]
  rfl
theorem gen_row0 (h : decide (lnF k.a k.b k.c = 1) = true) : sl ((genN k 0).map k.own) ++ [iv k.D, iv 0, iv 0] = sl ((genN k 1).map k.own) := by
  rw [gen_row (j := 0) (of_decide_eq_true h)]; simp [unit3]
theorem gen_row1 (h : decide (lnF k.d k.e k.f = 1) = true) : sl ((genN k 1).map k.own) ++ [iv 0, iv k.D, iv 0] = sl ((genN k 2).map k.own) := by
  rw [gen_row (j := 1) (of_decide_eq_true h)]; simp [unit3]
theorem gen_row2 (h : decide (lnF k.g k.h k.i = 1) = true) : sl ((genN k 2).map k.own) ++ [iv 0, iv 0, iv k.D] = sl ((genN k 3).map k.own) := by
  rw [gen_row (j := 2) (of_decide_eq_true h)]; simp [unit3]
theorem gen_no0 (h : decide (lnF k.a k.b k.c = 1) = false) : genN k 1 = genN k 0 := ray1_no (j := 0) (of_decide_eq_false h)
theorem gen_no1 (h : decide (lnF k.d k.e k.f = 1) = false) : genN k 2 = genN k 1 := ray1_no (j := 1) (of_decide_eq_false h)
theorem gen_no2 (h : decide (lnF k.g k.h k.i = 1) = false) : genN k 3 = genN k 2 := ray1_no (j := 2) (of_decide_eq_false h)
theorem row_y0 {C : List Value} {o n c : Nat} (hr : RowO C o (sl ((genN k 0).map k.own) ++ [iv k.D, iv 0, iv 0]) n c 3) (h : decide (lnF k.a k.b k.c = 1) = true) : RowO C o (sl ((genN k 1).map k.own)) n c 3 := by rw [← gen_row0 h]; exact hr
theorem row_n0 {C : List Value} {o n c : Nat} (hr : RowO C o (sl ((genN k 0).map k.own)) n c 3) (h : decide (lnF k.a k.b k.c = 1) = false) : RowO C o (sl ((genN k 1).map k.own)) n c 3 := by rw [gen_no0 h]; exact hr
theorem row_y1 {C : List Value} {o n c : Nat} (hr : RowO C o (sl ((genN k 1).map k.own) ++ [iv 0, iv k.D, iv 0]) n c 3) (h : decide (lnF k.d k.e k.f = 1) = true) : RowO C o (sl ((genN k 2).map k.own)) n c 3 := by rw [← gen_row1 h]; exact hr
theorem row_n1 {C : List Value} {o n c : Nat} (hr : RowO C o (sl ((genN k 1).map k.own)) n c 3) (h : decide (lnF k.d k.e k.f = 1) = false) : RowO C o (sl ((genN k 2).map k.own)) n c 3 := by rw [gen_no1 h]; exact hr
theorem row_y2 {C : List Value} {o n c : Nat} (hr : RowO C o (sl ((genN k 2).map k.own) ++ [iv 0, iv 0, iv k.D]) n c 3) (h : decide (lnF k.g k.h k.i = 1) = true) : RowO C o (sl ((genN k 3).map k.own)) n c 3 := by rw [← gen_row2 h]; exact hr
theorem row_n2 {C : List Value} {o n c : Nat} (hr : RowO C o (sl ((genN k 2).map k.own)) n c 3) (h : decide (lnF k.g k.h k.i = 1) = false) : RowO C o (sl ((genN k 3).map k.own)) n c 3 := by rw [gen_no2 h]; exact hr
structure RayI (k : Cn) (i : Int) (C : List Value) (o n c : Nat) : Prop where
  lo : 0 ≤ i
  hi : i ≤ 3
  row : RowO C o (sl ((genN k i.toNat).map k.own)) n c 3
theorem RayI.len {i : Int} {C : List Value} {o n c : Nat} (h : RayI k i C o n c) (hk : k.Ok) : n ≤ 64000003 := by
  have := h.row.len
  rw [sl_len, List.length_map] at this
  have := genN_len hk i.toNat
  have := h.hi
  omega
theorem RayI.three {i : Int} {C : List Value} {o n c : Nat} (h : RayI k i C o n c) (hl : i < 3) : i = 0 ∨ i = 1 ∨ i = 2 := by
  have := h.lo; omega
theorem RayI.fin {i : Int} {C : List Value} {o n c : Nat} (h : RayI k i C o n c) (hl : ¬ i < 3) : RowO C o (sl ((genI k).map k.own)) n c 3 := by
  have h1 := h.lo; have h2 := h.hi
  have : i = 3 := by omega
  subst this
  exact h.row
theorem hilO_len (hk : k.Ok) : (hilO k).length ≤ 64000003 := Nat.le_trans (List.length_filter_le ..) (allS_len (Cn.prm_ok hk))
theorem ray_y0 {C : List Value} {o n c : Nat} (hr : RowO C o (sl ((genN k (Int.toNat 0)).map k.own) ++ [iv k.D, iv 0, iv 0]) n c 3) (h : decide (lnF k.a k.b k.c = 1) = true) : RayI k (w64 (0 + 1)) C o n c := by
  rw [show w64 (0 + 1) = 1 from rfl]
  exact ⟨by decide, by decide, row_y0 hr h⟩
theorem ray_n0 {C : List Value} {o n c : Nat} (hI : RayI k 0 C o n c) (h : decide (lnF k.a k.b k.c = 1) = false) : RayI k (w64 (0 + 1)) C o n c := by
  rw [show w64 (0 + 1) = 1 from rfl]
  exact ⟨by decide, by decide, row_n0 hI.row h⟩
theorem ray_m0 : (3 - w64 (0 + 1)).toNat < (3 - 0 : Int).toNat := by decide
theorem ray_y1 {C : List Value} {o n c : Nat} (hr : RowO C o (sl ((genN k (Int.toNat 1)).map k.own) ++ [iv 0, iv k.D, iv 0]) n c 3) (h : decide (lnF k.d k.e k.f = 1) = true) : RayI k (w64 (1 + 1)) C o n c := by
  rw [show w64 (1 + 1) = 2 from rfl]
  exact ⟨by decide, by decide, row_y1 hr h⟩
theorem ray_n1 {C : List Value} {o n c : Nat} (hI : RayI k 1 C o n c) (h : decide (lnF k.d k.e k.f = 1) = false) : RayI k (w64 (1 + 1)) C o n c := by
  rw [show w64 (1 + 1) = 2 from rfl]
  exact ⟨by decide, by decide, row_n1 hI.row h⟩
theorem ray_m1 : (3 - w64 (1 + 1)).toNat < (3 - 1 : Int).toNat := by decide
theorem ray_y2 {C : List Value} {o n c : Nat} (hr : RowO C o (sl ((genN k (Int.toNat 2)).map k.own) ++ [iv 0, iv 0, iv k.D]) n c 3) (h : decide (lnF k.g k.h k.i = 1) = true) : RayI k (w64 (2 + 1)) C o n c := by
  rw [show w64 (2 + 1) = 3 from rfl]
  exact ⟨by decide, by decide, row_y2 hr h⟩
theorem ray_n2 {C : List Value} {o n c : Nat} (hI : RayI k 2 C o n c) (h : decide (lnF k.g k.h k.i = 1) = false) : RayI k (w64 (2 + 1)) C o n c := by
  rw [show w64 (2 + 1) = 3 from rfl]
  exact ⟨by decide, by decide, row_n2 hI.row h⟩
theorem ray_m2 : (3 - w64 (2 + 1)).toNat < (3 - 2 : Int).toNat := by decide
end
end Go.Ev
end

section
/-
  Hilbert bases: what the reference's loops keep.
  Conditions: none.
-/
set_option linter.unusedVariables false
set_option linter.unusedSimpArgs false
namespace Go.Ev
open Go.RowKit

def allN (k : Cn) : Nat → List S3
  | 0 => boxO k
  | j + 1 => insS (allN k j) (k.ray j)
section
variable {k : Cn} {i j : Int} {O A Q : List S3} {x y : S3} {b : Bool}
theorem allN_three (k : Cn) : allN k 3 = allS k := rfl
theorem allN_asc (k : Cn) : ∀ j, Asc (allN k j)
  | 0 => boxO_asc k
  | j + 1 => insS_asc (allN_asc k j) _
theorem insS_le (l : List S3) (y : S3) : (insS l y).length ≤ l.length + 1 := by
  unfold insS
  split
  · omega
  · have := atS_le y l
    simp only [List.length_append, List.length_take, List.length_drop, List.length_singleton]; omega
theorem allN_len (hk : k.Ok) : ∀ j, (allN k j).length ≤ 64000000 + j
  | 0 => boxO_len hk
  | j + 1 => by
    have := allN_len hk j
    have := insS_le (allN k j) (k.ray j)
    show (insS (allN k j) (k.ray j)).length ≤ _
    omega
theorem insS_old {l : List S3} {y : S3} (h : y ∈ l) : insS l y = l := by unfold insS; rw [if_pos h]
structure PutN (k : Cn) (i : Int) (O : List S3) : Prop where
  lo : 0 ≤ i
  hi : i ≤ 3
  eq : O = allN k i.toNat
theorem PutN.start : PutN k 0 (boxO k) := ⟨by decide, by decide, rfl⟩
theorem PutN.asc (h : PutN k i O) : Asc O := by rw [h.eq]; exact allN_asc k _
theorem PutN.len (h : PutN k i O) (hk : k.Ok) : O.length ≤ 64000003 := by
  have := allN_len hk i.toNat
  have := h.hi
  rw [h.eq]; omega
theorem PutN.three (h : PutN k i O) (hl : i < 3) : i = 0 ∨ i = 1 ∨ i = 2 := by have := h.lo; omega
theorem PutN.fin (h : PutN k i O) (hl : ¬ i < 3) : O = allS k := by
  have h1 := h.lo; have h2 := h.hi
  have : i = 3 := by omega
  subst this
  exact h.eq
theorem put_o0 (h : PutN k 0 O) (hm : k.ray 0 ∈ O) : PutN k (w64 (0 + 1)) O := by
  rw [show w64 (0 + 1) = 1 from rfl]
  refine ⟨by decide, by decide, ?_⟩
  have e := h.eq
  subst e
  exact (insS_old hm).symm
theorem put_o1 (h : PutN k 1 O) (hm : k.ray 1 ∈ O) : PutN k (w64 (1 + 1)) O := by
  rw [show w64 (1 + 1) = 2 from rfl]
  refine ⟨by decide, by decide, ?_⟩
  have e := h.eq
  subst e
  exact (insS_old hm).symm
theorem put_o2 (h : PutN k 2 O) (hm : k.ray 2 ∈ O) : PutN k (w64 (2 + 1)) O := by
  rw [show w64 (2 + 1) = 3 from rfl]
  refine ⟨by decide, by decide, ?_⟩
  have e := h.eq
  subst e
  exact (insS_old hm).symm
theorem put_n0 (h : PutN k 0 O) : PutN k (w64 (0 + 1)) (insS O (k.ray 0)) := by
  rw [show w64 (0 + 1) = 1 from rfl]
  have e := h.eq
  subst e
  exact ⟨by decide, by decide, rfl⟩
theorem put_n1 (h : PutN k 1 O) : PutN k (w64 (1 + 1)) (insS O (k.ray 1)) := by
  rw [show w64 (1 + 1) = 2 from rfl]
  have e := h.eq
  subst e
  exact ⟨by decide, by decide, rfl⟩
theorem put_n2 (h : PutN k 2 O) : PutN k (w64 (2 + 1)) (insS O (k.ray 2)) := by
  rw [show w64 (2 + 1) = 3 from rfl]
  have e := h.eq
  subst e
  exact ⟨by decide, by decide, rfl⟩
theorem allS_sm (hk : k.Ok) (h : x ∈ allS k) : (-60 ≤ x.1 ∧ x.1 ≤ 60) ∧ (-60 ≤ x.2.1 ∧ x.2.1 ≤ 60) ∧ (-60 ≤ x.2.2 ∧ x.2.2 ≤ 60) := by
  have hr := Cn.ray_sm hk
  rcases allS_mem.1 h with h | rfl | rfl | rfl
  · exact box_small hk ((boxL_ok hk).box x h)
  · have := hr 0; omega
  · have := hr 1; omega
  · have := hr 2; omega

def fB (k : Cn) (x y : S3) : Bool := decide (y = z3) || decide (sub3 x y = z3) || !nn3 (k.own (sub3 x y))
structure BasI (k : Cn) (A : List S3) (x : S3) (j : Int) (b : Bool) : Prop where
  lo : 0 ≤ j
  hi : j ≤ (A.length : Int)
  eq : b = (!decide (x = z3) && (A.take j.toNat).all (fB k x))
theorem eqz_iff {x : S3} : eqCells #[iv x.1, iv x.2.1, iv x.2.2].toList #[iv 0, iv 0, iv 0].toList = decide (x = z3) := by
  rw [Bool.eq_iff_iff, decide_eq_true_eq]
  exact eq3_cells
theorem BasI.start : BasI k A x 0 (!eqCells #[iv x.1, iv x.2.1, iv x.2.2].toList #[iv 0, iv 0, iv 0].toList) := by
  refine ⟨by omega, by omega, ?_⟩
  rw [eqz_iff]
  simp
theorem BasI.next {b0 : Bool} (h : BasI k A x j b0) (hb : b0 = true) (hj : j < (A.length : Int)) (hl : A.length ≤ 100000000) (e : b = fB k x (A.getD j.toNat z3)) : BasI k A x (w64 (j + 1)) b := by
  have h0 := h.lo
  rw [w64_in (by omega) (by omega)]
  subst hb
  have hq := h.eq
  refine ⟨by omega, by omega, ?_⟩
  have hlt : j.toNat < A.length := by omega
  rw [show (j + 1).toNat = j.toNat + 1 by omega, List.take_add_one, List.getElem?_eq_getElem hlt, List.all_append, ← Bool.and_assoc, ← hq, e]
  rw [show A.getD j.toNat z3 = A[j.toNat] by simp [List.getD, List.getElem?_eq_getElem hlt]]
  simp
theorem BasI.mu (h : BasI k A x j b) (hj : j < (A.length : Int)) (hl : A.length ≤ 100000000) : ((A.length : Int) - w64 (j + 1)).toNat < ((A.length : Int) - j).toNat := by
  have h0 := h.lo
  rw [w64_in (by omega) (by omega)]; omega
theorem BasI.fin (h : BasI k A x j b) (hj : ¬ j < (A.length : Int)) : b = bas k A x := by
  have h0 := h.lo
  rw [h.eq, List.take_of_length_le (by omega)]
  rfl
theorem BasI.yes (h : BasI k A x j b) (hb : b = true) (hj : ¬ j < (A.length : Int)) : true = bas k A x := by rw [← hb]; exact h.fin hj
theorem BasI.stop (h : BasI k A x j b) (hb : b = false) : false = bas k A x := by
  subst hb
  have hq := h.eq
  show _ = (!decide (x = z3) && A.all (fB k x))
  cases hx : decide (x = z3) with
  | true => simp
  | false =>
    rw [hx] at hq
    simp only [Bool.not_false, Bool.true_and] at hq ⊢
    symm
    rw [Bool.eq_false_iff]
    intro ha
    rw [List.all_eq_true] at ha
    have : (A.take j.toNat).all (fB k x) = true := List.all_eq_true.2 fun y hy => ha y (List.mem_of_mem_take hy)
    rw [this] at hq; cases hq
theorem rest_F (hk : k.Ok) (hx : x ∈ allS k) (hy : y ∈ allS k) : (plusF x.1 (-1) y.1, plusF x.2.1 (-1) y.2.1, plusF x.2.2 (-1) y.2.2) = sub3 x y ∧ Sm3 (sub3 x y) := by
  have h1 := allS_sm hk hx
  have h2 := allS_sm hk hy
  constructor
  · rw [plus_in (by omega) (by omega), plus_in (by omega) (by omega), plus_in (by omega) (by omega)]
    exact s3_ext (by simp only [sub3]; omega) (by simp only [sub3]; omega) (by simp only [sub3]; omega)
  · exact ⟨by simp only [sub3]; omega, by simp only [sub3]; omega, by simp only [sub3]; omega⟩
theorem fB_y (h : eqCells #[iv y.1, iv y.2.1, iv y.2.2].toList #[iv 0, iv 0, iv 0].toList = true) : true = fB k x y := by
  rw [eqz_iff] at h
  unfold fB
  rw [h]; rfl
theorem fB_r (h : eqCells #[iv (sub3 x y).1, iv (sub3 x y).2.1, iv (sub3 x y).2.2].toList #[iv 0, iv 0, iv 0].toList = true) : true = fB k x y := by
  rw [eqz_iff] at h
  unfold fB
  rw [h]; simp
theorem fB_i (h1 : eqCells #[iv y.1, iv y.2.1, iv y.2.2].toList #[iv 0, iv 0, iv 0].toList = false) (h2 : eqCells #[iv (sub3 x y).1, iv (sub3 x y).2.1, iv (sub3 x y).2.2].toList #[iv 0, iv 0, iv 0].toList = false) : (!nn3 (k.own (sub3 x y))) = fB k x y := by
  rw [eqz_iff] at h1 h2
  unfold fB
  rw [h1, h2]; rfl

structure FilI (k : Cn) (A : List S3) (i : Int) (Q : List S3) : Prop where
  lo : 0 ≤ i
  hi : i ≤ (A.length : Int)
  eq : Q = (A.take i.toNat).filter (bas k A)
theorem FilI.start : FilI k A 0 [] := ⟨by omega, by omega, by simp⟩
theorem FilI.len (h : FilI k A i Q) : Q.length ≤ A.length := by
  rw [h.eq]
  exact Nat.le_trans (List.length_filter_le ..) (by rw [List.length_take]; omega)
theorem FilI.step (h : FilI k A i Q) (hi : i < (A.length : Int)) : (A.take (i + 1).toNat).filter (bas k A) = Q ++ if bas k A (A.getD i.toNat z3) = true then [A.getD i.toNat z3] else [] := by
  have h0 := h.lo
  have hlt : i.toNat < A.length := by omega
  rw [show (i + 1).toNat = i.toNat + 1 by omega, List.take_add_one, List.getElem?_eq_getElem hlt, List.filter_append, ← h.eq]
  rw [show A.getD i.toNat z3 = A[i.toNat] by simp [List.getD, List.getElem?_eq_getElem hlt]]
  cases hp : bas k A A[i.toNat] <;> simp [hp]
theorem FilI.yes (h : FilI k A i Q) (hi : i < (A.length : Int)) (hl : A.length ≤ 100000000) (hb : true = bas k A (A.getD i.toNat z3)) : FilI k A (w64 (i + 1)) (Q ++ [A.getD i.toNat z3]) := by
  have h0 := h.lo
  rw [w64_in (by omega) (by omega)]
  refine ⟨by omega, by omega, ?_⟩
  rw [h.step hi, ← hb]; rfl
theorem FilI.no (h : FilI k A i Q) (hi : i < (A.length : Int)) (hl : A.length ≤ 100000000) (hb : false = bas k A (A.getD i.toNat z3)) : FilI k A (w64 (i + 1)) Q := by
  have h0 := h.lo
  rw [w64_in (by omega) (by omega)]
  refine ⟨by omega, by omega, ?_⟩
  rw [h.step hi, ← hb]
  simp
theorem FilI.mu (h : FilI k A i Q) (hj : i < (A.length : Int)) (hl : A.length ≤ 100000000) : ((A.length : Int) - w64 (i + 1)).toNat < ((A.length : Int) - i).toNat := by
  have h0 := h.lo
  rw [w64_in (by omega) (by omega)]; omega
def hilS (k : Cn) : List S3 := (allS k).filter (bas k (allS k))
theorem hilO_eq (k : Cn) : hilO k = hilS k.prm := rfl
theorem FilI.fin (h : FilI k (allS k) i Q) (hj : ¬ i < ((allS k).length : Int)) : Q = hilS k := by
  have h0 := h.lo
  rw [h.eq, List.take_of_length_le (by omega)]
  rfl
theorem hilS_len (hk : k.Ok) : (hilS k).length ≤ 64000003 := Nat.le_trans (List.length_filter_le ..) (allS_len hk)
theorem allS_in {i : Nat} (h : i < (allS k).length) : (allS k).getD i z3 ∈ allS k := getD_in h
theorem ln_nz (hk : k.Ok) (j : Nat) : decide (ln3 (k.ray j) = 0) = false := by
  have := (ln3_dvd (Cn.ray_sm hk j) (Cn.ray_ne hk j)).1
  exact decide_eq_false (by omega)
theorem ln_nz0 (hk : k.Ok) : decide (lnF k.a k.b k.c = 0) = false := ln_nz hk 0
theorem ln_nz1 (hk : k.Ok) : decide (lnF k.d k.e k.f = 0) = false := ln_nz hk 1
theorem ln_nz2 (hk : k.Ok) : decide (lnF k.g k.h k.i = 0) = false := ln_nz hk 2
end
end Go.Ev
end

section
/-
  How many spots a box has: as many as the determinant tells. Hilbert bases hold the primitive rays.
  Conditions: none.
-/
set_option linter.unusedVariables false
set_option linter.unusedSimpArgs false
namespace Go.Ev

theorem nodup_sub {α : Type} [DecidableEq α] {L M : List α} (hn : L.Nodup) (hs : ∀ x ∈ L, x ∈ M) : L.length ≤ M.length := by
  have hd : (L.map fun x => M.idxOf x).Nodup := by
    rw [List.Nodup, List.pairwise_map]
    refine (List.Pairwise.and_mem.1 hn).imp ?_
    rintro x y ⟨hx, hy, hne⟩ he
    have h1 := List.idxOf_lt_length_iff.2 (hs x hx)
    have h2 := List.idxOf_lt_length_iff.2 (hs y hy)
    have e1 : M[M.idxOf x] = x := List.getElem_idxOf h1
    have e2 : M[M.idxOf y] = y := List.getElem_idxOf h2
    apply hne
    rw [← e1, ← e2]
    congr 1
  have := nodup_le M.length _ hd (fun n hn => by
    obtain ⟨x, hx, rfl⟩ := List.mem_map.1 hn
    exact List.idxOf_lt_length_iff.2 (hs x hx))
  rwa [List.length_map] at this

def Lat (k : Cn) (x : S3) : Prop := ∃ m : S3, x = k.sum m
structure SameL (k k' : Cn) : Prop where
  lat : ∀ x, Lat k x ↔ Lat k' x
  vol : k.vol.natAbs = k'.vol.natAbs
theorem SameL.refl (k : Cn) : SameL k k := ⟨fun _ => Iff.rfl, rfl⟩
theorem SameL.trans {k k' k'' : Cn} (h1 : SameL k k') (h2 : SameL k' k'') : SameL k k'' := ⟨fun x => (h1.lat x).trans (h2.lat x), h1.vol.trans h2.vol⟩
def st01 (k : Cn) (t : Int) : Cn := ⟨k.d, k.e, k.f, k.a - t * k.d, k.b - t * k.e, k.c - t * k.f, k.g, k.h, k.i⟩
def st12 (k : Cn) (t : Int) : Cn := ⟨k.a, k.b, k.c, k.g, k.h, k.i, k.d - t * k.g, k.e - t * k.h, k.f - t * k.i⟩
theorem st01_same (k : Cn) (t : Int) : SameL k (st01 k t) := by
  refine ⟨fun x => ⟨?_, ?_⟩, ?_⟩
  · rintro ⟨m, rfl⟩
    refine ⟨(m.2.1 + t * m.1, m.1, m.2.2), s3_ext ?_ ?_ ?_⟩ <;> simp only [Cn.sum, st01] <;> grind
  · rintro ⟨m, rfl⟩
    refine ⟨(m.2.1, m.1 - t * m.2.1, m.2.2), s3_ext ?_ ?_ ?_⟩ <;> simp only [Cn.sum, st01] <;> grind
  · have : (st01 k t).vol = -k.vol := by
      simp only [Cn.vol, volP, st01]; grind
    rw [this, Int.natAbs_neg]
theorem st12_same (k : Cn) (t : Int) : SameL k (st12 k t) := by
  refine ⟨fun x => ⟨?_, ?_⟩, ?_⟩
  · rintro ⟨m, rfl⟩
    refine ⟨(m.1, m.2.2 + t * m.2.1, m.2.1), s3_ext ?_ ?_ ?_⟩ <;> simp only [Cn.sum, st12] <;> grind
  · rintro ⟨m, rfl⟩
    refine ⟨(m.1, m.2.2, m.2.1 - t * m.2.2), s3_ext ?_ ?_ ?_⟩ <;> simp only [Cn.sum, st12] <;> grind
  · have : (st12 k t).vol = -k.vol := by
      simp only [Cn.vol, volP, st12]; grind
    rw [this, Int.natAbs_neg]
theorem emod_lt_abs' (a : Int) {d : Int} (hd : d ≠ 0) : a % d < d.natAbs := by
  rcases Int.lt_or_le 0 d with h | h
  · have := Int.emod_lt_of_pos a h
    omega
  · have := Int.emod_lt_of_pos a (show 0 < -d by omega)
    rw [Int.emod_neg] at this
    omega
theorem mod_abs {a d : Int} (hd : d ≠ 0) : (a - a / d * d).natAbs < d.natAbs := by
  have e : a - a / d * d = a % d := by
    have := Int.emod_add_mul_ediv a d
    rw [Int.mul_comm] at this; omega
  rw [e]
  have h1 := Int.emod_nonneg a hd
  have h2 := emod_lt_abs' a hd
  omega
theorem red01 : ∀ (n : Nat) (k : Cn), k.d.natAbs ≤ n → ∃ k', SameL k k' ∧ k'.d = 0 ∧ k'.g = k.g ∧ k'.h = k.h ∧ k'.i = k.i
  | 0, k, h => ⟨k, SameL.refl k, by omega, rfl, rfl, rfl⟩
  | n + 1, k, h => by
    by_cases hd : k.d = 0
    · exact ⟨k, SameL.refl k, hd, rfl, rfl, rfl⟩
    · have hl := mod_abs (a := k.a) hd
      obtain ⟨k', h1, h2, h3, h4, h5⟩ := red01 n (st01 k (k.a / k.d)) (by show (k.a - k.a / k.d * k.d).natAbs ≤ n; omega)
      exact ⟨k', (st01_same k _).trans h1, h2, h3, h4, h5⟩
theorem red12 : ∀ (n : Nat) (k : Cn), k.h.natAbs ≤ n → k.d = 0 → k.g = 0 → ∃ k', SameL k k' ∧ k'.d = 0 ∧ k'.g = 0 ∧ k'.h = 0
  | 0, k, h, h1, h2 => ⟨k, SameL.refl k, h1, h2, by omega⟩
  | n + 1, k, h, h1, h2 => by
    by_cases hd : k.h = 0
    · exact ⟨k, SameL.refl k, h1, h2, hd⟩
    · have hl := mod_abs (a := k.e) hd
      obtain ⟨k', g1, g2, g3, g4⟩ := red12 n (st12 k (k.e / k.h)) (by show (k.e - k.e / k.h * k.h).natAbs ≤ n; omega) h2 (by show k.d - k.e / k.h * k.g = 0; rw [h1, h2]; simp)
      exact ⟨k', (st12_same k _).trans g1, g2, g3, g4⟩
theorem tri_ex (k : Cn) : ∃ k', SameL k k' ∧ k'.d = 0 ∧ k'.g = 0 ∧ k'.h = 0 := by
  obtain ⟨k1, s1, d1, -⟩ := red01 _ k (Nat.le_refl _)
  obtain ⟨k2, s2, d2, g2, -⟩ := red01 _ (st12 k1 0) (Nat.le_refl _)
  have g3 : k2.g = 0 := by rw [g2]; show k1.d - 0 * k1.g = 0; rw [d1]; simp
  obtain ⟨k3, s3, d3, g3, h3⟩ := red12 _ k2 (Nat.le_refl _) d2 g3
  exact ⟨k3, ((s1.trans (st12_same k1 0)).trans s2).trans s3, d3, g3, h3⟩

structure Tri (k : Cn) : Prop where
  d : k.d = 0
  g : k.g = 0
  h : k.h = 0
  nz : k.vol ≠ 0
section
variable {k : Cn}
theorem Tri.vol (h : Tri k) : k.vol = k.a * k.e * k.i := by
  unfold Cn.vol volP
  rw [h.d, h.g, h.h]
  grind
theorem Tri.na (h : Tri k) : k.a ≠ 0 ∧ k.e ≠ 0 ∧ k.i ≠ 0 := by
  have hn := h.nz
  rw [h.vol] at hn
  refine ⟨fun e => hn ?_, fun e => hn ?_, fun e => hn ?_⟩ <;> rw [e] <;> simp
def rd0 (k : Cn) (x : S3) : S3 := (x.1 % k.a, x.2.1 - x.1 / k.a * k.b, x.2.2 - x.1 / k.a * k.c)
def rd1 (k : Cn) (x : S3) : S3 := (x.1, x.2.1 % k.e, x.2.2 - x.2.1 / k.e * k.f)
def rd2 (k : Cn) (x : S3) : S3 := (x.1, x.2.1, x.2.2 % k.i)
def rdc (k : Cn) (x : S3) : S3 := rd2 k (rd1 k (rd0 k x))
theorem rdc_lat (h : Tri k) (x : S3) : Lat k (sub3 x (rdc k x)) := by
  refine ⟨(x.1 / k.a, (rd0 k x).2.1 / k.e, (rd1 k (rd0 k x)).2.2 / k.i), ?_⟩
  have e0 := Int.emod_add_mul_ediv x.1 k.a
  have e1 := Int.emod_add_mul_ediv (rd0 k x).2.1 k.e
  have e2 := Int.emod_add_mul_ediv (rd1 k (rd0 k x)).2.2 k.i
  have c0 : (sub3 x (rdc k x)).1 = x.1 - x.1 % k.a := rfl
  have c1 : (sub3 x (rdc k x)).2.1 = x.2.1 - (rd0 k x).2.1 % k.e := rfl
  have c2 : (sub3 x (rdc k x)).2.2 = x.2.2 - (rd1 k (rd0 k x)).2.2 % k.i := rfl
  have d1 : (rd0 k x).2.1 = x.2.1 - x.1 / k.a * k.b := rfl
  have d2 : (rd1 k (rd0 k x)).2.2 = x.2.2 - x.1 / k.a * k.c - (rd0 k x).2.1 / k.e * k.f := rfl
  refine s3_ext ?_ ?_ ?_
  · rw [c0]; simp only [Cn.sum]; rw [h.d, h.g]; grind
  · rw [c1]; simp only [Cn.sum]; rw [h.h]; grind
  · rw [c2]; simp only [Cn.sum]; grind
theorem rdc_rng (h : Tri k) (x : S3) : (0 ≤ (rdc k x).1 ∧ (rdc k x).1 < k.a.natAbs) ∧ (0 ≤ (rdc k x).2.1 ∧ (rdc k x).2.1 < k.e.natAbs) ∧ (0 ≤ (rdc k x).2.2 ∧ (rdc k x).2.2 < k.i.natAbs) := by
  obtain ⟨h1, h2, h3⟩ := h.na
  have key : ∀ (a : Int) {d : Int}, d ≠ 0 → 0 ≤ a % d ∧ a % d < d.natAbs := by
    intro a d hd
    have := emod_lt_abs' a hd
    exact ⟨Int.emod_nonneg a hd, by omega⟩
  exact ⟨key _ h1, key _ h2, key _ h3⟩
theorem small_zero {t a m : Int} (ha : a ≠ 0) (h1 : -(a.natAbs : Int) < t) (h2 : t < a.natAbs) (e : t = m * a) : m = 0 := by
  rcases Int.lt_or_le m 0 with hm | hm
  · have : (m * a).natAbs = m.natAbs * a.natAbs := Int.natAbs_mul m a
    have h3 : 1 * a.natAbs ≤ m.natAbs * a.natAbs := Nat.mul_le_mul_right _ (by omega)
    omega
  · rcases Int.lt_or_le 0 m with hm2 | hm2
    · have : (m * a).natAbs = m.natAbs * a.natAbs := Int.natAbs_mul m a
      have h3 : 1 * a.natAbs ≤ m.natAbs * a.natAbs := Nat.mul_le_mul_right _ (by omega)
      omega
    · omega
theorem red_uniq (h : Tri k) {x y : S3} (hx : (0 ≤ x.1 ∧ x.1 < k.a.natAbs) ∧ (0 ≤ x.2.1 ∧ x.2.1 < k.e.natAbs) ∧ (0 ≤ x.2.2 ∧ x.2.2 < k.i.natAbs)) (hy : (0 ≤ y.1 ∧ y.1 < k.a.natAbs) ∧ (0 ≤ y.2.1 ∧ y.2.1 < k.e.natAbs) ∧ (0 ≤ y.2.2 ∧ y.2.2 < k.i.natAbs)) (hl : Lat k (sub3 x y)) : x = y := by
  obtain ⟨h1, h2, h3⟩ := h.na
  obtain ⟨m, hm⟩ := hl
  simp only [sub3, Cn.sum, Prod.mk.injEq] at hm
  rw [h.d, h.g, h.h] at hm
  obtain ⟨e1, e2, e3⟩ := hm
  have m1 : m.1 = 0 := small_zero (t := x.1 - y.1) h1 (by omega) (by omega) (by rw [e1]; simp)
  rw [m1] at e1 e2 e3
  have m2 : m.2.1 = 0 := small_zero (t := x.2.1 - y.2.1) h2 (by omega) (by omega) (by rw [e2]; simp)
  rw [m2] at e1 e2 e3
  have m3 : m.2.2 = 0 := small_zero (t := x.2.2 - y.2.2) h3 (by omega) (by omega) (by rw [e3]; simp)
  rw [m3] at e1 e2 e3
  exact s3_ext (by simp at e1; omega) (by simp at e2; omega) (by simp at e3; omega)
theorem lat_add {x y : S3} (h1 : Lat k x) (h2 : Lat k y) : Lat k (add3 x y) := by
  obtain ⟨m, rfl⟩ := h1
  obtain ⟨n, rfl⟩ := h2
  refine ⟨add3 m n, s3_ext ?_ ?_ ?_⟩ <;> simp only [Cn.sum, add3] <;> grind
theorem lat_neg {x y : S3} (h1 : Lat k (sub3 x y)) : Lat k (sub3 y x) := by
  obtain ⟨m, hm⟩ := h1
  simp only [sub3, Cn.sum, Prod.mk.injEq] at hm
  obtain ⟨e1, e2, e3⟩ := hm
  refine ⟨mul3 (-1) m, s3_ext ?_ ?_ ?_⟩ <;> simp only [Cn.sum, mul3, sub3] <;> grind
theorem lat_tr {x y z : S3} (h1 : Lat k (sub3 x y)) (h2 : Lat k (sub3 y z)) : Lat k (sub3 x z) := by
  have := lat_add h1 h2
  rwa [show add3 (sub3 x y) (sub3 y z) = sub3 x z from s3_ext (by simp [sub3, add3]; omega) (by simp [sub3, add3]; omega) (by simp [sub3, add3]; omega)] at this
def enc (k : Cn) (x : S3) : Nat := ((rdc k x).1.toNat * k.e.natAbs + (rdc k x).2.1.toNat) * k.i.natAbs + (rdc k x).2.2.toNat
def dec (k : Cn) (n : Nat) : S3 := (((n / k.i.natAbs / k.e.natAbs : Nat) : Int), ((n / k.i.natAbs % k.e.natAbs : Nat) : Int), ((n % k.i.natAbs : Nat) : Int))
theorem enc_lt (h : Tri k) (x : S3) : enc k x < k.a.natAbs * k.e.natAbs * k.i.natAbs := by
  obtain ⟨h1, h2, h3⟩ := rdc_rng h x
  unfold enc
  exact code_lt (by omega) (code_lt (by omega) (by omega))
theorem enc_eq (h : Tri k) {x y : S3} (he : enc k x = enc k y) : Lat k (sub3 x y) := by
  obtain ⟨h1, h2, h3⟩ := rdc_rng h x
  obtain ⟨g1, g2, g3⟩ := rdc_rng h y
  unfold enc at he
  obtain ⟨e1, e2⟩ := code_inj (by omega) (by omega) he
  obtain ⟨e3, e4⟩ := code_inj (by omega) (by omega) e1
  have e : rdc k x = rdc k y := s3_ext (by omega) (by omega) (by omega)
  have := rdc_lat h x
  rw [e] at this
  exact lat_tr this (lat_neg (rdc_lat h y))
theorem enc_dec (h : Tri k) {n : Nat} (hn : n < k.a.natAbs * k.e.natAbs * k.i.natAbs) : enc k (dec k n) = n := by
  obtain ⟨h1, h2, h3⟩ := h.na
  have hi : 0 < k.i.natAbs := by omega
  have he : 0 < k.e.natAbs := by omega
  have b1 : n / k.i.natAbs / k.e.natAbs < k.a.natAbs := by
    rw [Nat.div_lt_iff_lt_mul he, Nat.div_lt_iff_lt_mul hi]; exact hn
  have b2 : n / k.i.natAbs % k.e.natAbs < k.e.natAbs := Nat.mod_lt _ he
  have b3 : n % k.i.natAbs < k.i.natAbs := Nat.mod_lt _ hi
  have hr := rdc_rng h (dec k n)
  have e : rdc k (dec k n) = dec k n := red_uniq h hr ⟨⟨Int.natCast_nonneg _, Int.ofNat_lt.2 b1⟩, ⟨Int.natCast_nonneg _, Int.ofNat_lt.2 b2⟩, ⟨Int.natCast_nonneg _, Int.ofNat_lt.2 b3⟩⟩ (lat_neg (rdc_lat h _))
  unfold enc
  rw [e]
  unfold dec
  simp only [Int.toNat_natCast]
  rw [Nat.mul_comm (n / k.i.natAbs / k.e.natAbs), Nat.div_add_mod, Nat.mul_comm, Nat.div_add_mod]
end

section
variable {k : Cn}
theorem own_lat (hk : k.Ok) {x y : S3} : Lat k (sub3 x y) ↔ mod3 k.D (k.own x) = mod3 k.D (k.own y) := by
  constructor
  · rintro ⟨m, hm⟩
    have e : x = add3 y (k.sum m) := by
      rw [← hm]
      exact s3_ext (by simp [sub3, add3]; omega) (by simp [sub3, add3]; omega) (by simp [sub3, add3]; omega)
    rw [e, Cn.own_add, Cn.own_sum]
    simp [mod3, add3, mul3, Int.add_mul_emod_self_left]
  · intro h
    have hf := Cn.fold_of hk h
    have l : ∀ z, Lat k (sub3 z (k.fold z)) := by
      intro z
      refine ⟨((k.own z).1 / k.D, (k.own z).2.1 / k.D, (k.own z).2.2 / k.D), s3_ext ?_ ?_ ?_⟩ <;> simp only [sub3, Cn.fold, add3, Cn.sum] <;> grind
    have l1 := l x
    rw [hf] at l1
    exact lat_tr l1 (lat_neg (l y))
theorem D_abs (k : Cn) : k.D = k.vol.natAbs := by
  unfold Cn.D Cn.sg
  split <;> omega
theorem boxL_count (hk : k.Ok) : ((boxL k).length : Int) = k.D := by
  obtain ⟨t, hs, hd, hg, hh⟩ := tri_ex k
  have ht : Tri t := ⟨hd, hg, hh, fun e => hk.nz (by have := hs.vol; rw [e] at this; simpa using this)⟩
  have hv : k.D = ((t.a.natAbs * t.e.natAbs * t.i.natAbs : Nat) : Int) := by
    rw [D_abs, hs.vol, ht.vol, Int.natAbs_mul, Int.natAbs_mul]
  have h1 : (boxL k).length ≤ t.a.natAbs * t.e.natAbs * t.i.natAbs := by
    have hn : ((boxL k).map (enc t)).Nodup := by
      rw [List.Nodup, List.pairwise_map]
      refine (List.Pairwise.and_mem.1 (boxL_ok hk).nd).imp ?_
      rintro x y ⟨hx, hy, hne⟩ he
      have hl := (own_lat hk).1 ((hs.lat _).2 (enc_eq ht he))
      have := Cn.fold_of hk hl
      rw [Cn.fold_box hk ((boxL_ok hk).box x hx), Cn.fold_box hk ((boxL_ok hk).box y hy)] at this
      exact hne this
    have := nodup_le _ _ hn (fun n hn => by
      obtain ⟨x, -, rfl⟩ := List.mem_map.1 hn
      exact enc_lt ht x)
    rwa [List.length_map] at this
  have h2 : t.a.natAbs * t.e.natAbs * t.i.natAbs ≤ (boxL k).length := by
    have hn : ((List.range (t.a.natAbs * t.e.natAbs * t.i.natAbs)).map fun n => k.fold (dec t n)).Nodup := by
      rw [List.Nodup, List.pairwise_map]
      refine (List.Pairwise.and_mem.1 List.nodup_range).imp ?_
      rintro x y ⟨hx, hy, hne⟩ he
      rw [List.mem_range] at hx hy
      have e2 : mod3 k.D (k.own (dec t x)) = mod3 k.D (k.own (dec t y)) := by rw [← Cn.own_fold, ← Cn.own_fold, he]
      have hl := (hs.lat _).1 ((own_lat hk).2 e2)
      have : rdc t (dec t x) = rdc t (dec t y) := red_uniq ht (rdc_rng ht _) (rdc_rng ht _) (lat_tr (lat_neg (rdc_lat ht _)) (lat_tr hl (rdc_lat ht _)))
      apply hne
      rw [← enc_dec ht hx, ← enc_dec ht hy]
      unfold enc
      rw [this]
    have := nodup_sub hn (M := boxL k) (fun x hx => by
      obtain ⟨n, -, rfl⟩ := List.mem_map.1 hx
      exact fold_mem hk _)
    rwa [List.length_map, List.length_range] at this
  omega
theorem boxO_count (hk : k.Ok) : ((boxO k).length : Int) = k.D := by
  rw [← boxL_count hk]
  have h1 : (boxO k).length ≤ (boxL k).length := nodup_sub (boxO_asc k).nodup fun x hx => (boxO_mem k x).1 hx
  have h2 : (boxL k).length ≤ (boxO k).length := nodup_sub (boxL_ok hk).nd fun x hx => (boxO_mem k x).2 hx
  omega

theorem prim_gcd (hk : k.Ok) (j : Nat) : ((Int.gcd (Int.gcd (k.prm.ray j).1 (k.prm.ray j).2.1 : Int) (k.prm.ray j).2.2 : Nat) : Int) = 1 := by
  have hp : k.prm.ray j = dv3 (k.ray j) := by
    match j with
    | 0 => rfl
    | 1 => rfl
    | _ + 2 => rfl
  obtain ⟨p0, y, e0, d0, b0⟩ := ln3_dvd (Cn.ray_sm hk j) (Cn.ray_ne hk j)
  have hs := Cn.ray_sm hk j
  rw [hp, d0]
  have e : ln3 (k.ray j) = ((Int.gcd (Int.gcd (k.ray j).1 (k.ray j).2.1 : Int) (k.ray j).2.2 : Nat) : Int) := lnF_eq (by unfold sm; omega) (by unfold sm; omega) (by unfold sm; omega)
  generalize ln3 (k.ray j) = l at e p0 e0
  rw [e0] at e
  simp only [mul3] at e
  obtain ⟨n, rfl⟩ : ∃ n : Nat, l = n := ⟨l.toNat, by omega⟩
  rw [Int.gcd_mul_left, Int.natAbs_natCast, Int.natCast_mul, Int.gcd_mul_left, Int.natAbs_natCast, Int.natCast_mul] at e
  have : (n : Int) * 1 = (n : Int) * ((Int.gcd (Int.gcd y.1 y.2.1 : Int) y.2.2 : Nat) : Int) := by rw [Int.mul_one]; exact e
  exact (Int.eq_of_mul_eq_mul_left (by omega) this).symm
theorem prim_irr (hk : k.Ok) (j : Nat) : k.Irr (k.prm.ray j) := by
  rw [(Cn.prm_i hk).irr]
  have hg := prim_gcd hk j
  have hk' := Cn.prm_ok hk
  generalize k.prm = q at hg hk'
  have hp := Cn.D_pos hk'
  refine ⟨Cn.ray_mon hk' j, Cn.ray_ne hk' j, fun x y mx my zx zy e => ?_⟩
  -- x is a part of the ray
  have eo := congrArg q.own e
  rw [Cn.own_add, Cn.own_ray] at eo
  have hx := Cn.own_ne hk' zx
  have hy := Cn.own_ne hk' zy
  unfold Cn.Mon NN at mx my
  simp only [add3, mul3, Prod.mk.injEq] at eo
  obtain ⟨u, hu, hu0, hu1⟩ : ∃ u, q.own x = mul3 u (unit3 j) ∧ 0 < u ∧ u < q.D := by
    match j, eo with
    | 0, eo =>
      simp only [unit3, Int.mul_one, Int.mul_zero] at eo
      refine ⟨(q.own x).1, s3_ext (by simp [mul3, unit3]) (by simp [mul3, unit3]; omega) (by simp [mul3, unit3]; omega), ?_, ?_⟩
      · refine Classical.byContradiction fun hn => hx (s3_ext (show _ = (0 : Int) by omega) (show _ = (0 : Int) by omega) (show _ = (0 : Int) by omega))
      · refine Classical.byContradiction fun hn => hy (s3_ext (show _ = (0 : Int) by omega) (show _ = (0 : Int) by omega) (show _ = (0 : Int) by omega))
    | 1, eo =>
      simp only [unit3, Int.mul_one, Int.mul_zero] at eo
      refine ⟨(q.own x).2.1, s3_ext (by simp [mul3, unit3]; omega) (by simp [mul3, unit3]) (by simp [mul3, unit3]; omega), ?_, ?_⟩
      · refine Classical.byContradiction fun hn => hx (s3_ext (show _ = (0 : Int) by omega) (show _ = (0 : Int) by omega) (show _ = (0 : Int) by omega))
      · refine Classical.byContradiction fun hn => hy (s3_ext (show _ = (0 : Int) by omega) (show _ = (0 : Int) by omega) (show _ = (0 : Int) by omega))
    | _ + 2, eo =>
      simp only [unit3, Int.mul_one, Int.mul_zero] at eo
      refine ⟨(q.own x).2.2, s3_ext (by simp [mul3, unit3]; omega) (by simp [mul3, unit3]; omega) (by simp [mul3, unit3]), ?_, ?_⟩
      · refine Classical.byContradiction fun hn => hx (s3_ext (show _ = (0 : Int) by omega) (show _ = (0 : Int) by omega) (show _ = (0 : Int) by omega))
      · refine Classical.byContradiction fun hn => hy (s3_ext (show _ = (0 : Int) by omega) (show _ = (0 : Int) by omega) (show _ = (0 : Int) by omega))
  have es := q.sum_own x
  have er : q.sum (mul3 u (unit3 j)) = mul3 u (q.ray j) := by
    match j with
    | 0 => simp [Cn.ray, unit3, Cn.sum, mul3]
    | 1 => simp [Cn.ray, unit3, Cn.sum, mul3]
    | _ + 2 => simp [Cn.ray, unit3, Cn.sum, mul3]
  rw [hu, er] at es
  simp only [mul3, Prod.mk.injEq] at es
  have d1 : q.D ∣ u * (q.ray j).1 := ⟨_, es.1⟩
  have d2 : q.D ∣ u * (q.ray j).2.1 := ⟨_, es.2.1⟩
  have d3 : q.D ∣ u * (q.ray j).2.2 := ⟨_, es.2.2⟩
  obtain ⟨n, rfl⟩ : ∃ n : Nat, u = n := ⟨u.toNat, by omega⟩
  have dd : q.D ∣ ((Int.gcd (Int.gcd ((n : Int) * (q.ray j).1) ((n : Int) * (q.ray j).2.1) : Int) ((n : Int) * (q.ray j).2.2) : Nat) : Int) := by
    exact Int.dvd_coe_gcd (Int.dvd_coe_gcd d1 d2) d3
  rw [Int.gcd_mul_left, Int.natAbs_natCast, Int.natCast_mul, Int.gcd_mul_left, Int.natAbs_natCast, Int.natCast_mul, hg, Int.mul_one] at dd
  have := Int.le_of_dvd (by omega) dd
  omega
theorem hilO_three (hk : k.Ok) : 3 ≤ (hilO k).length := by
  have hk' := Cn.prm_ok hk
  have hn : [k.prm.ray 0, k.prm.ray 1, k.prm.ray 2].Nodup := by
    have h01 : k.prm.ray 0 ≠ k.prm.ray 1 := fun e => by have := ray_inj hk' (by omega) (by omega) e; omega
    have h02 : k.prm.ray 0 ≠ k.prm.ray 2 := fun e => by have := ray_inj hk' (by omega) (by omega) e; omega
    have h12 : k.prm.ray 1 ≠ k.prm.ray 2 := fun e => by have := ray_inj hk' (by omega) (by omega) e; omega
    simp [h01, h02, h12]
  refine nodup_sub hn (M := hilO k) fun x hx => (hilO_mem hk).2 ?_
  simp only [List.mem_cons, List.not_mem_nil, or_false] at hx
  rcases hx with rfl | rfl | rfl
  · exact prim_irr hk 0
  · exact prim_irr hk 1
  · exact prim_irr hk 2
theorem hilO_reg (hk : k.Ok) (hD : k.D = 1) : (hilO k).length = 3 := by
  have h3 := hilO_three hk
  have : (hilO k).length ≤ [k.ray 0, k.ray 1, k.ray 2].length := nodup_sub (hilO_asc k).nodup fun x hx => by
    have hi := (hilI_mem hk).2 ((hilO_mem hk).1 hx)
    have hg := (List.mem_filter.1 hi).1
    rcases (genI_mem hk).1 hg with ⟨hb, hz⟩ | ⟨j, hj, rfl, -⟩
    · have hb := (boxL_ok hk).box x hb
      unfold Cn.Box at hb
      rw [hD] at hb
      exact absurd (Cn.own_inj hk (x := x) (y := z3) (by rw [Cn.own_zero]; exact s3_ext (show _ = (0 : Int) by omega) (show _ = (0 : Int) by omega) (show _ = (0 : Int) by omega))) hz
    · have : j = 0 ∨ j = 1 ∨ j = 2 := by omega
      rcases this with rfl | rfl | rfl <;> simp
  simp only [List.length_cons, List.length_nil] at this
  omega
theorem hilO_in (hk : k.Ok) {x : S3} (hx : x ∈ hilO k) : nn3 (k.own x) = true ∧ Sm3 x := by
  have hi := (hilO_mem hk).1 hx
  refine ⟨nn3_iff.2 hi.1, ?_⟩
  have hg := (List.mem_filter.1 ((hilI_mem hk).2 hi)).1
  have hd := Cn.D_le hk
  rcases (genI_mem hk).1 hg with ⟨hb, hz⟩ | ⟨j, hj, rfl, -⟩
  · have := box_small hk ((boxL_ok hk).box x hb)
    exact ⟨by omega, by omega, by omega⟩
  · have := Cn.ray_sm hk j
    exact ⟨by omega, by omega, by omega⟩
end
end Go.Ev
end

section
/-
  Boxes, Hilbert bases, coordinates: what the law on cones asks.
  Conditions: none.
-/
set_option linter.unusedVariables false
set_option linter.unusedSimpArgs false
namespace Go.Ev
open Go.RowKit

theorem cn_em (a b c d e f g h i : Int) : isConeF a b c d e f g h i = false ∨ (isConeF a b c d e f g h i = true ∧ decide (sizeF (volF a b c d e f g h i) > 400) = true) ∨ ∃ k : Cn, k.Ok ∧ k.a = a ∧ k.b = b ∧ k.c = c ∧ k.d = d ∧ k.e = e ∧ k.f = f ∧ k.g = g ∧ k.h = h ∧ k.i = i := by
  cases h1 : isConeF a b c d e f g h i
  · exact .inl rfl
  · cases h2 : decide (sizeF (volF a b c d e f g h i) > 400)
    · exact .inr (.inr ⟨⟨a, b, c, d, e, f, g, h, i⟩, Cn.ok_of h1 h2, rfl, rfl, rfl, rfl, rfl, rfl, rfl, rfl, rfl⟩)
    · exact .inr (.inl ⟨rfl, rfl⟩)
theorem ce_em (a b c d e f g h i x y z : Int) : (isConeF a b c d e f g h i = true ∧ isSpF x y z = true ∧ (isConeF a b c d e f g h i && isSpF x y z) = true) ∨ (isConeF a b c d e f g h i && isSpF x y z) = false := by
  cases h1 : isConeF a b c d e f g h i <;> cases h2 : isSpF x y z <;> simp
theorem cs_em (a b c x y z : Int) : (isSpF a b c && isSpF x y z) = true ∨ (isSpF a b c && isSpF x y z) = false := by
  cases h1 : isSpF a b c <;> cases h2 : isSpF x y z <;> simp
theorem size_sg (v : Int) : sizeF (w64 v) = w64 (sgF (w64 v) * w64 v) := by
  unfold sizeF maxi sgF selF
  have hb := w64_bounds v
  by_cases h : w64 v < 0
  · rw [decide_eq_true h]
    show (if _ then _ else _) = w64 (-1 * w64 v)
    rw [show (-1 * w64 v) = 0 - w64 v by omega]
    have e := w64_def (0 - w64 v)
    split
    · rfl
    · omega
  · rw [decide_eq_false h]
    show (if _ then _ else _) = w64 (1 * w64 v)
    rw [Int.one_mul, w64_in hb.1 hb.2]
    have e := w64_def (0 - w64 v)
    split <;> omega
section
variable {a b c d e f g h i x y z : Int}
theorem cram0 : w64 (sizeF (volF a b c d e f g h i) * x) = w64 (w64 (w64 (co0 a b c d e f g h i x y z * a) + w64 (co1 a b c d e f g h i x y z * d)) + w64 (co2 a b c d e f g h i x y z * g)) := by
  unfold co0 co1 co2
  rw [volF_eq a b c d e f g h i, size_sg]
  generalize sgF (w64 (volP a b c d e f g h i)) = s
  simp only [volF_eq, w64_mul_l, w64_mul_r, w64_add_l, w64_add_r]
  have key : ∀ {p q : Int}, p = q → w64 p = w64 q := fun e => by rw [e]
  apply key
  unfold volP
  grind
theorem cram1 : w64 (sizeF (volF a b c d e f g h i) * y) = w64 (w64 (w64 (co0 a b c d e f g h i x y z * b) + w64 (co1 a b c d e f g h i x y z * e)) + w64 (co2 a b c d e f g h i x y z * h)) := by
  unfold co0 co1 co2
  rw [volF_eq a b c d e f g h i, size_sg]
  generalize sgF (w64 (volP a b c d e f g h i)) = s
  simp only [volF_eq, w64_mul_l, w64_mul_r, w64_add_l, w64_add_r]
  have key : ∀ {p q : Int}, p = q → w64 p = w64 q := fun e => by rw [e]
  apply key
  unfold volP
  grind
theorem cram2 : w64 (sizeF (volF a b c d e f g h i) * z) = w64 (w64 (w64 (co0 a b c d e f g h i x y z * c) + w64 (co1 a b c d e f g h i x y z * f)) + w64 (co2 a b c d e f g h i x y z * i)) := by
  unfold co0 co1 co2
  rw [volF_eq a b c d e f g h i, size_sg]
  generalize sgF (w64 (volP a b c d e f g h i)) = s
  simp only [volF_eq, w64_mul_l, w64_mul_r, w64_add_l, w64_add_r]
  have key : ∀ {p q : Int}, p = q → w64 p = w64 q := fun e => by rw [e]
  apply key
  unfold volP
  grind
theorem cramM0 : w64 (maxi (volF a b c d e f g h i) (w64 (0 - volF a b c d e f g h i)) * x) = w64 (w64 (w64 (co0 a b c d e f g h i x y z * a) + w64 (co1 a b c d e f g h i x y z * d)) + w64 (co2 a b c d e f g h i x y z * g)) := cram0
theorem cramM1 : w64 (maxi (volF a b c d e f g h i) (w64 (0 - volF a b c d e f g h i)) * y) = w64 (w64 (w64 (co0 a b c d e f g h i x y z * b) + w64 (co1 a b c d e f g h i x y z * e)) + w64 (co2 a b c d e f g h i x y z * h)) := cram1
theorem cramM2 : w64 (maxi (volF a b c d e f g h i) (w64 (0 - volF a b c d e f g h i)) * z) = w64 (w64 (w64 (co0 a b c d e f g h i x y z * c) + w64 (co1 a b c d e f g h i x y z * f)) + w64 (co2 a b c d e f g h i x y z * i)) := cram2
theorem crs_dot : w64 (w64 (w64 (a * crF b z c y) + w64 (b * crF c x a z)) + w64 (c * crF a y b x)) = 0 := by
  unfold crF
  simp only [w64_mul_l, w64_mul_r, w64_add_l, w64_add_r, w64_sub_l, w64_sub_r]
  rw [show a * (b * z - c * y) + b * (c * x - a * z) + c * (a * y - b * x) = 0 by grind]
  rfl
theorem cone_sp3 (hc : isConeF a b c d e f g h i = true) : (isSpF a b c && isSpF d e f && isSpF g h i) = true := by
  unfold isConeF at hc
  simp only [Bool.and_eq_true] at hc ⊢
  exact hc.1
end
section
variable {k : Cn}
theorem sp3_k (hk : k.Ok) : (isSpF k.a k.b k.c && isSpF k.d k.e k.f && isSpF k.g k.h k.i) = true := cone_sp3 (Cn.cone_F hk)
theorem max_D (hk : k.Ok) : maxi (volF k.a k.b k.c k.d k.e k.f k.g k.h k.i) (w64 (0 - volF k.a k.b k.c k.d k.e k.f k.g k.h k.i)) = k.D := Cn.size_F hk
theorem box_len (hk : k.Ok) {sp : List Value} {n c : Nat} (h : Row (sl (boxO k)) sp n c 3) : decide ((n : Int) = maxi (volF k.a k.b k.c k.d k.e k.f k.g k.h k.i) (w64 (0 - volF k.a k.b k.c k.d k.e k.f k.g k.h k.i))) = true := by
  have h1 := row_sl h
  rw [max_D hk, ← boxO_count hk]
  exact decide_eq_true (by omega)
theorem hil_len3 (hk : k.Ok) {sp : List Value} {n c : Nat} (h : Row (sl (hilO k)) sp n c 3) : decide ((n : Int) < 3) = false := by
  have h1 := row_sl h
  have := hilO_three hk
  exact decide_eq_false (by omega)
theorem hil_reg3 (hk : k.Ok) {sp : List Value} {n c : Nat} (h : Row (sl (hilO k)) sp n c 3) (hD : decide (k.D = 1) = true) : decide ((n : Int) = 3) = true := by
  have h1 := row_sl h
  have := hilO_reg hk (of_decide_eq_true hD)
  exact decide_eq_true (by omega)
theorem hil_at (hk : k.Ok) {sp : List Value} {n c : Nat} (h : Row (sl (hilO k)) sp n c 3) {i : Int} (h0 : 0 ≤ i) (hi : i < (n : Int)) : (hilO k).getD i.toNat (0, 0, 0) ∈ hilO k := by
  have h1 := row_sl h
  exact getD_in (by omega)
theorem row_sl_le (hk : k.Ok) {sp : List Value} {n c : Nat} (h : Row (sl (hilO k)) sp n c 3) : n ≤ 64000003 := by
  have h1 := row_sl h
  have := hilO_len hk
  omega
end
end Go.Ev
end
