/-
  Spots in tetrahedra: the parts have the volume of the whole just where the coordinates tell so. The plain law.
  Conditions: none.
-/
import Derived.Test.YtgbnoaggnfjjgaaSpot
set_option linter.unusedVariables false
set_option linter.unusedSimpArgs false
namespace Go.Ev

def tvF (a b c d e f g h i x y z : Int) : Int := sizeF (volF (plusF d (-1) a) (plusF e (-1) b) (plusF f (-1) c) (plusF g (-1) a) (plusF h (-1) b) (plusF i (-1) c) (plusF x (-1) a) (plusF y (-1) b) (plusF z (-1) c))
def sm (a m : Int) : Prop := -m ≤ a ∧ a ≤ m

theorem sm_mul {x y m n : Int} (hx : sm x m) (hy : sm y n) (hm : 0 ≤ m) : sm (x * y) (m * n) := mul_abs hx.1 hx.2 hy.1 hy.2 hm
theorem volF_pt {a b c d e f g h i : Int} (ha : sm a 40) (hb : sm b 40) (hc : sm c 40) (hd : sm d 40) (he : sm e 40) (hf : sm f 40) (hg : sm g 40) (hh : sm h 40) (hi : sm i 40) :
    volF a b c d e f g h i = volP a b c d e f g h i ∧ sm (volP a b c d e f g h i) 384000 := by
  have h1 := sm_mul he hi (by omega); have h2 := sm_mul hf hh (by omega); have h3 := sm_mul hf hg (by omega); have h4 := sm_mul hd hi (by omega); have h5 := sm_mul hd hh (by omega); have h6 := sm_mul he hg (by omega)
  have k1 : sm (e * i - f * h) 3200 := by unfold sm at *; omega
  have k2 : sm (f * g - d * i) 3200 := by unfold sm at *; omega
  have k3 : sm (d * h - e * g) 3200 := by unfold sm at *; omega
  have l1 := sm_mul ha k1 (by omega); have l2 := sm_mul hb k2 (by omega); have l3 := sm_mul hc k3 (by omega)
  have hv : sm (volP a b c d e f g h i) 384000 := by unfold volP; unfold sm at *; omega
  refine ⟨?_, hv⟩
  rw [volF_eq]
  unfold sm at hv
  rw [w64_in (by omega) (by omega)]
theorem plus_pt {a b : Int} (ha : sm a 20) (hb : sm b 20) : plusF a (-1) b = a - b ∧ sm (a - b) 40 := by
  unfold sm at *
  rw [plusF_neg, w64_in (by omega) (by omega)]
  omega
theorem isSpF_iff {a b c : Int} : isSpF a b c = true ↔ sm a 20 ∧ sm b 20 ∧ sm c 20 := by
  unfold isSpF isSF inF sm
  simp only [Bool.and_eq_true, decide_eq_true_eq, ge_iff_le]
  omega
/-- The numbers of a tetrahedron's corners are small. -/
structure TetOk (a b c d e f g h i x y z : Int) : Prop where
  s0 : isSpF a b c = true
  s1 : isSpF d e f = true
  s2 : isSpF g h i = true
  s3 : isSpF x y z = true
theorem tv_eq {a b c d e f g h i x y z : Int} (k : TetOk a b c d e f g h i x y z) :
    tvF a b c d e f g h i x y z = (volP (d - a) (e - b) (f - c) (g - a) (h - b) (i - c) (x - a) (y - b) (z - c)).natAbs ∧ sm (volP (d - a) (e - b) (f - c) (g - a) (h - b) (i - c) (x - a) (y - b) (z - c)) 384000 := by
  obtain ⟨ha, hb, hc⟩ := isSpF_iff.1 k.s0
  obtain ⟨hd, he, hf⟩ := isSpF_iff.1 k.s1
  obtain ⟨hg, hh, hi⟩ := isSpF_iff.1 k.s2
  obtain ⟨hx, hy, hz⟩ := isSpF_iff.1 k.s3
  unfold tvF
  rw [(plus_pt hd ha).1, (plus_pt he hb).1, (plus_pt hf hc).1, (plus_pt hg ha).1, (plus_pt hh hb).1, (plus_pt hi hc).1, (plus_pt hx ha).1, (plus_pt hy hb).1, (plus_pt hz hc).1]
  have := volF_pt (plus_pt hd ha).2 (plus_pt he hb).2 (plus_pt hf hc).2 (plus_pt hg ha).2 (plus_pt hh hb).2 (plus_pt hi hc).2 (plus_pt hx ha).2 (plus_pt hy hb).2 (plus_pt hz hc).2
  refine ⟨?_, this.2⟩
  rw [this.1]
  have h2 := this.2
  unfold sm at h2
  unfold sizeF maxi
  rw [w64_in (by omega) (by omega)]
  split <;> omega

/-- The volumes of the four parts that (p, q, r) makes, together. -/
def partsF (a b c d e f g h i x y z p q r : Int) : Int :=
  w64 (w64 (w64 (w64 (0 + tvF p q r d e f g h i x y z) + tvF a b c p q r g h i x y z) + tvF a b c d e f p q r x y z) + tvF a b c d e f g h i p q r)
def hasF (a b c d e f g h i x y z p q r : Int) : Bool := decide (partsF a b c d e f g h i x y z p q r = tvF a b c d e f g h i x y z)
def rel (f : Int → Int → Int → Int → Int → Int → Int → Int → Int → Int → Int → Int → Int) (a b c d e f' g h i x y z p q r : Int) : Int :=
  f (plusF d (-1) a) (plusF e (-1) b) (plusF f' (-1) c) (plusF g (-1) a) (plusF h (-1) b) (plusF i (-1) c) (plusF x (-1) a) (plusF y (-1) b) (plusF z (-1) c) (plusF p (-1) a) (plusF q (-1) b) (plusF r (-1) c)
def insF (a b c d e f g h i x y z p q r : Int) : Bool :=
  decide (rel co0 a b c d e f g h i x y z p q r ≥ 0) && decide (rel co1 a b c d e f g h i x y z p q r ≥ 0) && decide (rel co2 a b c d e f g h i x y z p q r ≥ 0) &&
    decide (w64 (w64 (rel co0 a b c d e f g h i x y z p q r + rel co1 a b c d e f g h i x y z p q r) + rel co2 a b c d e f g h i x y z p q r) ≤ tvF a b c d e f g h i x y z)

theorem vol_parts (a b c d e f g h i p q r : Int) :
    volP (a - p) (b - q) (c - r) (d - p) (e - q) (f - r) (g - p) (h - q) (i - r) = volP a b c d e f g h i - volP p q r d e f g h i - volP a b c p q r g h i - volP a b c d e f p q r := by
  unfold volP; grind

theorem abs_parts (D v1 v2 v3 : Int) (s : Int) (hs : s = if D < 0 then -1 else 1) :
    ((D - v1 - v2 - v3).natAbs : Int) + v1.natAbs + v2.natAbs + v3.natAbs = D.natAbs ↔ (s * v1 ≥ 0 ∧ s * v2 ≥ 0 ∧ s * v3 ≥ 0) ∧ s * v1 + s * v2 + s * v3 ≤ D.natAbs := by
  subst hs
  split
  · simp only [Int.neg_mul, Int.one_mul]; omega
  · simp only [Int.one_mul]; omega

theorem has_ins {a b c d e f g h i x y z p q r : Int} (k : TetOk a b c d e f g h i x y z) (hp : isSpF p q r = true) : hasF a b c d e f g h i x y z p q r = insF a b c d e f g h i x y z p q r := by
  have t := tv_eq k
  have t0 := tv_eq (a := p) (b := q) (c := r) ⟨hp, k.s1, k.s2, k.s3⟩
  have t1 := tv_eq (d := p) (e := q) (f := r) ⟨k.s0, hp, k.s2, k.s3⟩
  have t2 := tv_eq (g := p) (h := q) (i := r) ⟨k.s0, k.s1, hp, k.s3⟩
  have t3 := tv_eq (x := p) (y := q) (z := r) ⟨k.s0, k.s1, k.s2, hp⟩
  obtain ⟨ha, hb, hc⟩ := isSpF_iff.1 k.s0
  obtain ⟨hd, he, hf⟩ := isSpF_iff.1 k.s1
  obtain ⟨hg, hh, hi⟩ := isSpF_iff.1 k.s2
  obtain ⟨hx, hy, hz⟩ := isSpF_iff.1 k.s3
  obtain ⟨hp0, hq0, hr0⟩ := isSpF_iff.1 hp
  have e0 : volP (d - p) (e - q) (f - r) (g - p) (h - q) (i - r) (x - p) (y - q) (z - r) =
      volP (d - a) (e - b) (f - c) (g - a) (h - b) (i - c) (x - a) (y - b) (z - c) - volP (p - a) (q - b) (r - c) (g - a) (h - b) (i - c) (x - a) (y - b) (z - c)
        - volP (d - a) (e - b) (f - c) (p - a) (q - b) (r - c) (x - a) (y - b) (z - c) - volP (d - a) (e - b) (f - c) (g - a) (h - b) (i - c) (p - a) (q - b) (r - c) := by
    rw [← vol_parts]
    congr 1 <;> omega
  rw [e0] at t0
  have vD := volF_pt (plus_pt hd ha).2 (plus_pt he hb).2 (plus_pt hf hc).2 (plus_pt hg ha).2 (plus_pt hh hb).2 (plus_pt hi hc).2 (plus_pt hx ha).2 (plus_pt hy hb).2 (plus_pt hz hc).2
  have v1 := volF_pt (plus_pt hp0 ha).2 (plus_pt hq0 hb).2 (plus_pt hr0 hc).2 (plus_pt hg ha).2 (plus_pt hh hb).2 (plus_pt hi hc).2 (plus_pt hx ha).2 (plus_pt hy hb).2 (plus_pt hz hc).2
  have v2 := volF_pt (plus_pt hd ha).2 (plus_pt he hb).2 (plus_pt hf hc).2 (plus_pt hp0 ha).2 (plus_pt hq0 hb).2 (plus_pt hr0 hc).2 (plus_pt hx ha).2 (plus_pt hy hb).2 (plus_pt hz hc).2
  have v3 := volF_pt (plus_pt hd ha).2 (plus_pt he hb).2 (plus_pt hf hc).2 (plus_pt hg ha).2 (plus_pt hh hb).2 (plus_pt hi hc).2 (plus_pt hp0 ha).2 (plus_pt hq0 hb).2 (plus_pt hr0 hc).2
  unfold hasF insF partsF rel co0 co1 co2
  rw [t.1, t0.1, t1.1, t2.1, t3.1, (plus_pt hd ha).1, (plus_pt he hb).1, (plus_pt hf hc).1, (plus_pt hg ha).1, (plus_pt hh hb).1, (plus_pt hi hc).1, (plus_pt hx ha).1, (plus_pt hy hb).1, (plus_pt hz hc).1,
    (plus_pt hp0 ha).1, (plus_pt hq0 hb).1, (plus_pt hr0 hc).1, vD.1, v1.1, v2.1, v3.1]
  have b0 := t0.2; have bD := vD.2; have b1 := v1.2; have b2 := v2.2; have b3 := v3.2
  clear t t0 t1 t2 t3 e0 vD v1 v2 v3
  generalize volP (d - a) (e - b) (f - c) (g - a) (h - b) (i - c) (x - a) (y - b) (z - c) = D at *
  generalize volP (p - a) (q - b) (r - c) (g - a) (h - b) (i - c) (x - a) (y - b) (z - c) = A1 at *
  generalize volP (d - a) (e - b) (f - c) (p - a) (q - b) (r - c) (x - a) (y - b) (z - c) = A2 at *
  generalize volP (d - a) (e - b) (f - c) (g - a) (h - b) (i - c) (p - a) (q - b) (r - c) = A3 at *
  unfold sm at b0 bD b1 b2 b3
  have key := abs_parts D A1 A2 A3 (sgF D) (by unfold sgF selF; by_cases hD : D < 0 <;> simp [hD])
  have hs : sgF D = -1 ∨ sgF D = 1 := by unfold sgF selF; by_cases hD : D < 0 <;> simp [hD]
  have c1 : w64 (sgF D * A1) = sgF D * A1 ∧ sm (sgF D * A1) 384000 := by rcases hs with hs | hs <;> rw [hs] <;> (unfold sm; rw [w64_in (by omega) (by omega)]; omega)
  have c2 : w64 (sgF D * A2) = sgF D * A2 ∧ sm (sgF D * A2) 384000 := by rcases hs with hs | hs <;> rw [hs] <;> (unfold sm; rw [w64_in (by omega) (by omega)]; omega)
  have c3 : w64 (sgF D * A3) = sgF D * A3 ∧ sm (sgF D * A3) 384000 := by rcases hs with hs | hs <;> rw [hs] <;> (unfold sm; rw [w64_in (by omega) (by omega)]; omega)
  rw [c1.1, c2.1, c3.1]
  have d1 := c1.2; have d2 := c2.2; have d3 := c3.2
  generalize sgF D * A1 = B1 at *
  generalize sgF D * A2 = B2 at *
  generalize sgF D * A3 = B3 at *
  unfold sm at d1 d2 d3
  rw [w64_in (n := B1 + B2) (by omega) (by omega), w64_in (n := B1 + B2 + B3) (by omega) (by omega)]
  rw [Int.zero_add, w64_in (n := ((D - A1 - A2 - A3).natAbs : Int)) (by omega) (by omega), w64_in (n := ((D - A1 - A2 - A3).natAbs : Int) + A1.natAbs) (by omega) (by omega),
    w64_in (n := ((D - A1 - A2 - A3).natAbs : Int) + A1.natAbs + A2.natAbs) (by omega) (by omega), w64_in (n := ((D - A1 - A2 - A3).natAbs : Int) + A1.natAbs + A2.natAbs + A3.natAbs) (by omega) (by omega)]
  rw [Bool.eq_iff_iff]
  simp only [Bool.and_eq_true, decide_eq_true_eq]
  rw [key]
  constructor
  · rintro ⟨⟨h1, h2, h3⟩, h4⟩; exact ⟨⟨⟨h1, h2⟩, h3⟩, h4⟩
  · rintro ⟨⟨⟨h1, h2⟩, h3⟩, h4⟩; exact ⟨⟨h1, h2, h3⟩, h4⟩

/-! ### Counting -/

def foldR (F : Int → Int → Int) : Nat → Int → Int → Int
  | 0, _, m => m
  | n + 1, z, m => foldR F n (z + 1) (F z m)
theorem foldR_congr {F G : Int → Int → Int} : ∀ (n : Nat) (z m : Int), (∀ k m, z ≤ k → k < z + n → F k m = G k m) → foldR F n z m = foldR G n z m
  | 0, _, _, _ => rfl
  | n + 1, z, m, h => by
    rw [foldR, foldR, h z m (by omega) (by omega)]
    exact foldR_congr n (z + 1) _ fun k m h1 h2 => h k m (by omega) (by omega)

def czF (p : Int → Int → Int → Bool) (lz hz x y m : Int) : Int := foldR (fun z m => if p x y z = true then w64 (m + 1) else m) (hz + 1 - lz).toNat lz m
def cyF (p : Int → Int → Int → Bool) (ly hy lz hz x m : Int) : Int := foldR (fun y m => czF p lz hz x y m) (hy + 1 - ly).toNat ly m
def cxF (p : Int → Int → Int → Bool) (lx hx ly hy lz hz m : Int) : Int := foldR (fun x m => cyF p ly hy lz hz x m) (hx + 1 - lx).toNat lx m

/-- The state of a loop that counts from lo to hi. -/
structure FoI (F : Int → Int → Int) (lo hi R z m : Int) : Prop where
  bl : -20 ≤ lo
  bh : hi ≤ 20
  zl : lo ≤ z
  zh : z ≤ hi + 1
  eq : foldR F (hi + 1 - z).toNat z m = R
theorem FoI.start {F : Int → Int → Int} {lo hi m : Int} (h1 : -20 ≤ lo) (h2 : hi ≤ 20) (h3 : lo ≤ hi) : FoI F lo hi (foldR F (hi + 1 - lo).toNat lo m) lo m := ⟨h1, h2, by omega, by omega, rfl⟩
theorem FoI.next {F : Int → Int → Int} {lo hi R z m m' : Int} (h : FoI F lo hi R z m) (hz : z ≤ hi) (hm : m' = F z m) : FoI F lo hi R (w64 (z + 1)) m' := by
  subst hm
  have h1 := h.bl; have h2 := h.bh; have h3 := h.zl
  rw [w64_in (by omega) (by omega)]
  refine ⟨h1, h2, by omega, by omega, ?_⟩
  rw [← h.eq, show (hi + 1 - z).toNat = (hi + 1 - (z + 1)).toNat + 1 by omega, foldR]
theorem FoI.mu {F : Int → Int → Int} {lo hi R z m : Int} (h : FoI F lo hi R z m) (hz : z ≤ hi) : (hi + 1 - w64 (z + 1)).toNat < (hi + 1 - z).toNat := by
  have h1 := h.bl; have h2 := h.bh; have h3 := h.zl
  rw [w64_in (by omega) (by omega)]; omega
theorem FoI.fin {F : Int → Int → Int} {lo hi R z m : Int} (h : FoI F lo hi R z m) (hz : ¬ z ≤ hi) : m = R := by
  have h1 := h.eq; have h3 := h.zh
  rw [show (hi + 1 - z).toNat = 0 by omega] at h1
  exact h1

theorem mini_self (a : Int) : mini a a = a := by unfold mini; split <;> rfl
theorem maxi_self (a : Int) : maxi a a = a := by unfold maxi; split <;> rfl
def lo4 (a d g x : Int) : Int := mini (mini (mini a d) g) x
def hi4 (a d g x : Int) : Int := maxi (maxi (maxi a d) g) x
theorem lohi {a d g x : Int} (h1 : sm a 20) (h2 : sm d 20) (h3 : sm g 20) (h4 : sm x 20) : -20 ≤ lo4 a d g x ∧ hi4 a d g x ≤ 20 ∧ lo4 a d g x ≤ hi4 a d g x := by
  unfold sm lo4 hi4 mini maxi at *
  split <;> split <;> split <;> split <;> split <;> split <;> omega
/-- How many spots of the smallest cuboid have the property. -/
def cntF (p : Int → Int → Int → Bool) (a b c d e f g h i x y z : Int) : Int :=
  cxF p (lo4 a d g x) (hi4 a d g x) (lo4 b e h y) (hi4 b e h y) (lo4 c f i z) (hi4 c f i z) 0
theorem TetOk.b0 {a b c d e f g h i x y z : Int} (k : TetOk a b c d e f g h i x y z) : -20 ≤ lo4 a d g x ∧ hi4 a d g x ≤ 20 ∧ lo4 a d g x ≤ hi4 a d g x :=
  lohi (isSpF_iff.1 k.s0).1 (isSpF_iff.1 k.s1).1 (isSpF_iff.1 k.s2).1 (isSpF_iff.1 k.s3).1
theorem TetOk.b1 {a b c d e f g h i x y z : Int} (k : TetOk a b c d e f g h i x y z) : -20 ≤ lo4 b e h y ∧ hi4 b e h y ≤ 20 ∧ lo4 b e h y ≤ hi4 b e h y :=
  lohi (isSpF_iff.1 k.s0).2.1 (isSpF_iff.1 k.s1).2.1 (isSpF_iff.1 k.s2).2.1 (isSpF_iff.1 k.s3).2.1
theorem TetOk.b2 {a b c d e f g h i x y z : Int} (k : TetOk a b c d e f g h i x y z) : -20 ≤ lo4 c f i z ∧ hi4 c f i z ≤ 20 ∧ lo4 c f i z ≤ hi4 c f i z :=
  lohi (isSpF_iff.1 k.s0).2.2 (isSpF_iff.1 k.s1).2.2 (isSpF_iff.1 k.s2).2.2 (isSpF_iff.1 k.s3).2.2
theorem cnt_same {a b c d e f g h i x y z : Int} (k : TetOk a b c d e f g h i x y z) : cntF (hasF a b c d e f g h i x y z) a b c d e f g h i x y z = cntF (insF a b c d e f g h i x y z) a b c d e f g h i x y z := by
  have h0 := k.b0; have h1 := k.b1; have h2 := k.b2
  unfold cntF cxF
  refine foldR_congr _ _ _ fun u m hu1 hu2 => ?_
  unfold cyF
  refine foldR_congr _ _ _ fun v m hv1 hv2 => ?_
  unfold czF
  refine foldR_congr _ _ _ fun w m hw1 hw2 => ?_
  rw [has_ins k (isSpF_iff.2 (by unfold sm; omega))]
def isTetF (a b c d e f g h i x y z : Int) : Bool := isSpF a b c && isSpF d e f && isSpF g h i && isSpF x y z && !decide (tvF a b c d e f g h i x y z = 0)
theorem tet_ok {a b c d e f g h i x y z : Int} (h1 : isTetF a b c d e f g h i x y z = true) : TetOk a b c d e f g h i x y z := by
  simp only [isTetF, Bool.and_eq_true] at h1
  exact ⟨h1.1.1.1.1, h1.1.1.1.2, h1.1.1.2, h1.1.2⟩

end Go.Ev
