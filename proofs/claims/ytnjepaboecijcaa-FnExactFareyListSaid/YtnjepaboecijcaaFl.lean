/-
  The fractions between 0 and 1 with second numbers of at most n (1 to 16): the plain law, by computing.
  Conditions: none.
-/
import Derived.Test.YtnjepaboecijcaaLong
set_option linter.unusedVariables false
set_option linter.unusedSimpArgs false
namespace Go.Ev

def rowN (q : Nat) : Nat → List (Nat × Nat)
  | 0 => []
  | p + 1 => rowN q p ++ (if Nat.gcd p q = 1 then [(p, q)] else [])
def setN : Nat → List (Nat × Nat)
  | 0 => []
  | q + 1 => setN q ++ rowN (q + 1) (q + 2)
def goN (n : Nat) : Nat → Nat × Nat → Nat × Nat → List (Nat × Nat)
  | 0, x, y => [x, y]
  | f + 1, x, y => if y.1 = y.2 then [x, y] else x :: goN n f y ((n + x.2) / y.2 * y.1 - x.1, (n + x.2) / y.2 * y.2 - x.2)
def farN (n : Nat) : List (Nat × Nat) := goN n 200 (0, 1) (1, n)
def atN (N : List (Nat × Nat)) (k : Nat) : Nat × Nat := N.getD k (0, 0)
def chkK (n : Nat) (N : List (Nat × Nat)) (k : Nat) : Bool :=
  decide (atN N (k + 1) ≠ (0, 0)) && decide (1 ≤ (atN N (k + 1)).2) &&
  (if k + 2 < N.length then decide ((atN N (k + 1)).1 ≠ (atN N (k + 1)).2) &&
      decide ((n + (atN N k).2) / (atN N (k + 1)).2 * (atN N (k + 1)).1 = (atN N (k + 2)).1 + (atN N k).1) && decide ((n + (atN N k).2) / (atN N (k + 1)).2 * (atN N (k + 1)).2 = (atN N (k + 2)).2 + (atN N k).2)
    else decide ((atN N (k + 1)).1 = (atN N (k + 1)).2))
def chkN (n : Nat) : Bool :=
  let N := farN n
  decide (2 ≤ N.length) && decide (N.length ≤ 100) && decide (N.take 2 = [(0, 1), (1, n)]) && (List.range (N.length - 1)).all (chkK n N) && N.all (fun x => decide (x.1 ≤ 16 ∧ 1 ≤ x.2 ∧ x.2 ≤ 16)) &&
  decide (N.Pairwise fun x y => x.1 * y.2 < x.2 * y.1) && N.isPerm (setN n)
theorem chk_all : ∀ n : Fin 16, chkN (n.val + 1) = true := by decide +kernel

def cst (x : Nat × Nat) : Int × Int := ((x.1 : Int), (x.2 : Int))
/-- The list, as the program has it. -/
def farL (n : Nat) : List (Int × Int) := (farN n).map cst
def setL (n : Nat) : List (Int × Int) := (setN n).map cst
def rowL (q p : Nat) : List (Int × Int) := (rowN q p).map cst

structure FarOk (n : Nat) : Prop where
  len2 : 2 ≤ (farN n).length
  len100 : (farN n).length ≤ 100
  start : (farN n).take 2 = [(0, 1), (1, n)]
  at_ : ∀ k, k + 1 < (farN n).length → chkK n (farN n) k = true
  bd : ∀ x ∈ farN n, x.1 ≤ 16 ∧ 1 ≤ x.2 ∧ x.2 ≤ 16
  lt : (farN n).Pairwise fun x y => x.1 * y.2 < x.2 * y.1
  perm : (farN n).Perm (setN n)
theorem FarOk.of {n : Nat} (h : 1 ≤ n) (h2 : n ≤ 16) : FarOk n := by
  have hc := chk_all ⟨n - 1, by omega⟩
  simp only [show n - 1 + 1 = n by omega] at hc
  unfold chkN at hc
  simp only [Bool.and_eq_true, decide_eq_true_eq, List.all_eq_true, List.mem_range] at hc
  obtain ⟨⟨⟨⟨⟨⟨h1, h2⟩, h3⟩, h4⟩, h5⟩, h6⟩, h7⟩ := hc
  exact ⟨h1, h2, h3, fun k hk => h4 k (by omega), h5, h6, List.isPerm_iff.1 h7⟩

theorem farL_len (n : Nat) : (farL n).length = (farN n).length := by simp [farL]
theorem farL_at (n k : Nat) (h : k < (farN n).length) : (farL n).getD k (0, 0) = cst (atN (farN n) k) := by
  unfold farL atN
  simp [List.getD, h]
theorem farL_take2 {n : Nat} (h : FarOk n) : (farL n).take 2 = [(0, 1), (1, (n : Int))] := by
  unfold farL
  rw [← List.map_take, h.start]; rfl
theorem atN_mem {N : List (Nat × Nat)} {k : Nat} (h : k < N.length) : atN N k ∈ N := by
  unfold atN
  exact getD_mem h

/-- A list that is sorted, and holds what the set holds, is that list. -/
theorem far_sorted {n : Nat} (h : FarOk n) {L : List (Int × Int)} (hp : L.Perm (setL n)) (hs : L.Pairwise fun x y => ¬ y.1 * x.2 < y.2 * x.1) : L = farL n := by
  have hp2 : L.Perm (farL n) := hp.trans ((h.perm.map cst).symm)
  have hlt : (farL n).Pairwise fun x y => x.1 * y.2 < x.2 * y.1 := by
    unfold farL
    rw [List.pairwise_map]
    refine h.lt.imp fun {x y} hxy => ?_
    unfold cst
    simp only
    have := Int.ofNat_lt.2 hxy
    simpa [Int.natCast_mul] using this
  have hle : (farL n).Pairwise fun x y => ¬ y.1 * x.2 < y.2 * x.1 := hlt.imp fun {x y} hxy => by
    have e1 := Int.mul_comm y.1 x.2
    have e2 := Int.mul_comm y.2 x.1
    omega
  refine List.Perm.eq_of_pairwise (le := fun x y : Int × Int => ¬ y.1 * x.2 < y.2 * x.1) (fun a b ha hb h1 h2 => ?_) hs hle hp2
  have ha' := hp2.mem_iff.1 ha
  by_cases hab : a = b
  · exact hab
  · exfalso
    have key : ∀ {l : List (Int × Int)}, l.Pairwise (fun x y => x.1 * y.2 < x.2 * y.1) → a ∈ l → b ∈ l → a.1 * b.2 < a.2 * b.1 ∨ b.1 * a.2 < b.2 * a.1 := by
      intro l hl
      induction hl with
      | nil => intro ha _; cases ha
      | cons hx _ ih =>
        intro ha hb
        rcases List.mem_cons.1 ha with e1 | h1
        · rcases List.mem_cons.1 hb with e2 | h2
          · exact absurd (e1.trans e2.symm) hab
          · exact .inl (e1 ▸ hx _ h2)
        · rcases List.mem_cons.1 hb with e2 | h2
          · exact .inr (e2 ▸ hx _ h1)
          · exact ih h1 h2
    have e1 := Int.mul_comm a.1 b.2
    have e2 := Int.mul_comm a.2 b.1
    have e3 := Int.mul_comm b.1 a.2
    have e4 := Int.mul_comm b.2 a.1
    rcases key hlt ha' hb with h3 | h3 <;> omega
/-! ## The program's two loops -/
theorem rowN_len (q : Nat) : ∀ p, (rowN q p).length ≤ p
  | 0 => Nat.le_refl _
  | p + 1 => by
    have := rowN_len q p
    rw [rowN, List.length_append]
    split <;> simp <;> omega
theorem setN_len : ∀ k, (setN k).length ≤ k * (k + 2)
  | 0 => Nat.le_refl _
  | k + 1 => by
    have h1 := setN_len k
    have h2 := rowN_len (k + 1) (k + 2)
    have h3 : k * (k + 2) + (k + 2) ≤ (k + 1) * (k + 1 + 2) := by
      have : (k + 1) * (k + 1 + 2) = k * (k + 2) + (k + 2) + (k + 1) := by
        rw [Nat.add_mul, Nat.mul_add k (k + 1) 2, Nat.mul_add k k 1, Nat.mul_add k k 2]; omega
      omega
    rw [setN, List.length_append]
    omega
theorem setL_len {k : Nat} (h : k ≤ 16) : (setL k).length ≤ 288 := by
  have h1 := setN_len k
  have h2 : k * (k + 2) ≤ 16 * 18 := Nat.mul_le_mul h (by omega)
  simp only [setL, List.length_map]; omega
theorem rowL_len (q p : Nat) : (rowL q p).length ≤ p := by
  have := rowN_len q p
  simpa [rowL] using this
structure FlO (m : Nat) (q : Int) (L : List (Int × Int)) (sp : List Value) (n c : Nat) : Prop where
  ex : ∃ k : Nat, q = (k : Int) + 1 ∧ k ≤ m ∧ L = setL k
  row : Row (pl L) sp n c 2
structure FlI (m : Nat) (q p : Int) (L : List (Int × Int)) (sp : List Value) (n c : Nat) : Prop where
  ex : ∃ k j : Nat, q = (k : Int) + 1 ∧ k < m ∧ p = (j : Int) ∧ j ≤ k + 2 ∧ L = setL k ++ rowL (k + 1) j
  row : Row (pl L) sp n c 2
section
variable {m : Nat} {q p : Int} {L : List (Int × Int)} {sp sp' : List Value} {n c c' : Nat}
theorem FlO.start : FlO m 1 [] [] 0 0 := ⟨⟨0, rfl, Nat.zero_le _, rfl⟩, Row.empty⟩
theorem FlO.enter (h : FlO m q L sp n c) (hq : decide (q ≤ (m : Int)) = true) : FlI m q 0 L sp n c := by
  obtain ⟨k, h1, h2, h3⟩ := h.ex
  have := of_decide_eq_true hq
  exact ⟨⟨k, 0, h1, by omega, rfl, by omega, by rw [h3]; simp [rowL, rowN]⟩, h.row⟩
theorem FlO.fin (h : FlO m q L sp n c) (hq : decide (q ≤ (m : Int)) = false) : L = setL m := by
  obtain ⟨k, h1, h2, h3⟩ := h.ex
  have := of_decide_eq_false hq
  obtain rfl : k = m := by omega
  exact h3
theorem FlI.out (h : FlI m q p L sp n c) (hm : m ≤ 16) (hp : decide (p ≤ q) = false) : FlO m (w64 (q + 1)) L sp n c := by
  obtain ⟨k, j, h1, h2, h3, h4, h5⟩ := h.ex
  have := of_decide_eq_false hp
  obtain rfl : j = k + 2 := by omega
  refine ⟨⟨k + 1, by rw [w64_in (by omega) (by omega)]; omega, by omega, ?_⟩, h.row⟩
  rw [h5]; simp [setL, rowL, setN]
theorem FlI.bd (h : FlI m q p L sp n c) (hm : m ≤ 16) : n ≤ 400 := by
  obtain ⟨k, j, h1, h2, h3, h4, h5⟩ := h.ex
  have e := row_pl h.row
  have e1 := setL_len (k := k) (by omega)
  have e2 := rowL_len (k + 1) j
  rw [h5, List.length_append] at e
  omega
theorem FlO.bd (h : FlO m q L sp n c) (hm : m ≤ 16) : n ≤ 400 := by
  obtain ⟨k, h1, h2, h3⟩ := h.ex
  have e := row_pl h.row
  have e1 := setL_len (k := k) (by omega)
  rw [h3] at e
  omega
theorem FlI.gcd {k j : Nat} (hk : k < 16) (hj : j ≤ k + 2) : gcdF (j : Int) ((k : Int) + 1) = 1 ↔ Nat.gcd j (k + 1) = 1 := by
  rw [gcdF_eq (by omega) (by omega)]
  have : Int.gcd (j : Int) ((k : Int) + 1) = Nat.gcd j (k + 1) := rfl
  rw [this]; omega
theorem FlI.no (h : FlI m q p L sp n c) (hm : m ≤ 16) (hp : decide (p ≤ q) = true) (hg : decide (gcdF p q = 1) = false) : FlI m q (w64 (p + 1)) L sp n c := by
  obtain ⟨k, j, h1, h2, h3, h4, h5⟩ := h.ex
  have := of_decide_eq_true hp
  have hg' := of_decide_eq_false hg
  rw [h1, h3, FlI.gcd (by omega) h4] at hg'
  refine ⟨⟨k, j + 1, h1, h2, by rw [w64_in (by omega) (by omega)]; omega, by omega, ?_⟩, h.row⟩
  rw [h5]; simp [rowL, rowN, hg']
theorem FlI.yes (h : FlI m q p L sp n c) (hm : m ≤ 16) (hp : decide (p ≤ q) = true) (hg : decide (gcdF p q = 1) = true) (hr : Row (pl L ++ [iv p, iv q]) sp' (n + 1) c' 2) : FlI m q (w64 (p + 1)) (L ++ [(p, q)]) sp' (n + 1) c' := by
  obtain ⟨k, j, h1, h2, h3, h4, h5⟩ := h.ex
  have := of_decide_eq_true hp
  have hg' := of_decide_eq_true hg
  rw [h1, h3, FlI.gcd (by omega) h4] at hg'
  refine ⟨⟨k, j + 1, h1, h2, by rw [w64_in (by omega) (by omega)]; omega, by omega, ?_⟩, by rw [pl_snoc]; exact hr⟩
  rw [h5, h1, h3]; simp [rowL, rowN, hg', cst]
theorem FlI.mu (h : FlI m q p L sp n c) (hm : m ≤ 16) (hp : decide (p ≤ q) = true) : (q + 1 - w64 (p + 1)).toNat < (q + 1 - p).toNat := by
  obtain ⟨k, j, h1, h2, h3, h4, h5⟩ := h.ex
  have := of_decide_eq_true hp
  rw [w64_in (by omega) (by omega)]; omega
theorem FlI.mu0 (h : FlI m q p L sp n c) (hm : m ≤ 16) : ((m : Int) + 1 - w64 (q + 1)).toNat < ((m : Int) + 1 - q).toNat := by
  obtain ⟨k, j, h1, h2, h3, h4, h5⟩ := h.ex
  rw [w64_in (by omega) (by omega)]; omega
theorem row_perm {L L' : List (Int × Int)} {sp : List Value} {n c : Nat} (h : Row (pl L) sp n c 2) (hl : L'.length = L.length) : Row (pl L') sp n c 2 :=
  ⟨by rw [pl_len, hl, ← pl_len]; exact h.len, by rw [pl_len, hl, ← pl_len]; exact h.cap, pl_plain L', h.ps⟩
theorem setL_bd {k : Nat} (h1 : 1 ≤ k) (h : k ≤ 16) : ∀ x ∈ setL k, (0 ≤ x.1 ∧ x.1 ≤ 1000) ∧ 1 ≤ x.2 ∧ x.2 ≤ 1000 := by
  intro x hx
  have hf := FarOk.of h1 h
  obtain ⟨y, hy, rfl⟩ := List.mem_map.1 hx
  have := hf.bd y (hf.perm.mem_iff.2 hy)
  simp only [cst]
  omega
end

/-! ## The reference's loop -/
def timesF (m : Int) (x y : Int × Int) : Int := w64 ((w64 (m + x.2)).tdiv y.2)
def nxtF (m : Int) (x y : Int × Int) : Int × Int := (plusF (w64 (0 - x.1)) (timesF m x y) y.1, plusF (w64 (0 - x.2)) (timesF m x y) y.2)
theorem goN_len (n : Nat) : ∀ f x y, (goN n f x y).length ≤ f + 2
  | 0, x, y => by simp [goN]
  | f + 1, x, y => by
    have := goN_len n f y ((n + x.2) / y.2 * y.1 - x.1, (n + x.2) / y.2 * y.2 - x.2)
    unfold goN
    split <;> simp <;> omega
theorem rowBig (m : Nat) : (farN m).length ≤ 202 := goN_len m 200 _ _
structure FlS (m : Nat) (k : Int) (L : List (Int × Int)) (sp : List Value) (n c : Nat) : Prop where
  ex : ∃ j : Nat, k = (j : Int) + 1 ∧ j + 2 ≤ (farN m).length ∧ L = (farL m).take (j + 2) ∧ n = j + 2
  row : Row (pl L) sp n c 2
section
variable {m : Nat} {k : Int} {L : List (Int × Int)} {sp sp' : List Value} {n c c' : Nat}
theorem FlS.start (h : FarOk m) : FlS m 1 [(0, 1), (1, (m : Int))] [] 2 2 :=
  ⟨⟨0, rfl, h.len2, (farL_take2 h).symm, rfl⟩, Row.lit rfl rfl⟩
theorem FlS.ix (h : FlS m k L sp n c) : L.length = n ∧ 1 ≤ k ∧ k.toNat < n ∧ (w64 (k - 1)).toNat < n ∧ (w64 (k - 1)).toNat + 1 = k.toNat ∧ 0 ≤ w64 (k - 1) ∧ k < (n : Int) ∧ w64 (k - 1) < (n : Int) ∧ (FarOk m → n ≤ 100) := by
  obtain ⟨j, h1, h2, h3, h4⟩ := h.ex
  have e := row_pl h.row
  by_cases hm : n ≤ 1000000
  · have e1 : w64 (k - 1) = (j : Int) := by rw [w64_in (by omega) (by omega)]; omega
    rw [e1]
    refine ⟨e, by omega, by omega, by omega, by omega, by omega, by omega, by omega, fun hf => ?_⟩
    have := hf.len100; omega
  · exfalso
    have := rowBig m
    omega
theorem FlS.at_ (h : FlS m k L sp n c) : ∃ j : Nat, k = (j : Int) + 1 ∧ j + 2 ≤ (farN m).length ∧ L = (farL m).take (j + 2) ∧ n = j + 2 ∧ L.getD k.toNat (0, 0) = cst (atN (farN m) (j + 1)) ∧ L.getD (w64 (k - 1)).toNat (0, 0) = cst (atN (farN m) j) := by
  obtain ⟨j, h1, h2, h3, h4⟩ := h.ex
  obtain ⟨i1, i2, i3, i4, i5, _⟩ := h.ix
  refine ⟨j, h1, h2, h3, h4, ?_, ?_⟩
  · rw [show k.toNat = j + 1 by omega, h3, ← farL_at m (j + 1) (by omega)]
    simp [List.getD, List.getElem?_take]
  · rw [show (w64 (k - 1)).toNat = j by omega, h3, ← farL_at m j (by omega)]
    simp [List.getD, List.getElem?_take]
theorem FlS.nz (h : FlS m k L sp n c) (hf : FarOk m) : (L.getD k.toNat (0, 0)).2 ≠ 0 := by
  obtain ⟨j, h1, h2, h3, h4, h5, h6⟩ := h.at_
  rw [h5]
  have := (hf.bd _ (atN_mem (N := farN m) (k := j + 1) (by omega))).2.1
  simp only [cst]; omega
theorem FlS.fin (h : FlS m k L sp n c) (hf : FarOk m) (he : decide ((L.getD k.toNat (0, 0)).1 = (L.getD k.toNat (0, 0)).2) = true) : L = farL m := by
  obtain ⟨j, h1, h2, h3, h4, h5, h6⟩ := h.at_
  have he' := of_decide_eq_true he
  rw [h5] at he'
  have hc := hf.at_ j (by omega)
  unfold chkK at hc
  simp only [Bool.and_eq_true, decide_eq_true_eq] at hc
  obtain ⟨⟨c1, c2⟩, c3⟩ := hc
  split at c3
  · simp only [Bool.and_eq_true, decide_eq_true_eq] at c3
    exfalso
    apply c3.1.1
    simp only [cst] at he'
    omega
  · rw [h3, List.take_of_length_le (by rw [farL_len]; omega)]
theorem plus_nat {x T y z : Nat} (hx : x ≤ 16) (hz : z ≤ 16) (h : T * y = z + x) : plusF (w64 (0 - (x : Int))) (T : Int) (y : Int) = (z : Int) := by
  have e1 : (T : Int) * (y : Int) = (z : Int) + x := by rw [← Int.natCast_mul, h]; simp
  have e2 : w64 (0 - (x : Int)) = -(x : Int) := by rw [w64_in (by omega) (by omega)]; omega
  unfold plusF
  rw [e2, e1, w64_in (n := (z : Int) + x) (by omega) (by omega), w64_in (by omega) (by omega)]
  omega
theorem FlS.next (h : FlS m k L sp n c) (hf : FarOk m) (hm : m ≤ 16) (he : decide ((L.getD k.toNat (0, 0)).1 = (L.getD k.toNat (0, 0)).2) = false)
    (hr : Row (pl L ++ [iv (nxtF (m : Int) (L.getD (w64 (k - 1)).toNat (0, 0)) (L.getD k.toNat (0, 0))).1, iv (nxtF (m : Int) (L.getD (w64 (k - 1)).toNat (0, 0)) (L.getD k.toNat (0, 0))).2]) sp' (n + 1) c' 2) :
    FlS m (w64 (k + 1)) (L ++ [nxtF (m : Int) (L.getD (w64 (k - 1)).toNat (0, 0)) (L.getD k.toNat (0, 0))]) sp' (n + 1) c' := by
  obtain ⟨j, h1, h2, h3, h4, h5, h6⟩ := h.at_
  have he' := of_decide_eq_false he
  have hc := hf.at_ j (by omega)
  have hl := hf.len100
  unfold chkK at hc
  simp only [Bool.and_eq_true, decide_eq_true_eq] at hc
  obtain ⟨⟨c1, c2⟩, c3⟩ := hc
  split at c3
  · rename_i hj
    simp only [Bool.and_eq_true, decide_eq_true_eq] at c3
    obtain ⟨⟨_, d1⟩, d2⟩ := c3
    have b0 := hf.bd _ (atN_mem (N := farN m) (k := j) (by omega))
    have b1 := hf.bd _ (atN_mem (N := farN m) (k := j + 1) (by omega))
    have b2 := hf.bd _ (atN_mem (N := farN m) (k := j + 2) (by omega))
    have ht : timesF (m : Int) (cst (atN (farN m) j)) (cst (atN (farN m) (j + 1))) = (((m + (atN (farN m) j).2) / (atN (farN m) (j + 1)).2 : Nat) : Int) := by
      unfold timesF cst
      simp only
      have hle : (m + (atN (farN m) j).2) / (atN (farN m) (j + 1)).2 ≤ m + (atN (farN m) j).2 := Nat.div_le_self _ _
      rw [w64_in (n := (m : Int) + _) (by omega) (by omega), ← Int.natCast_add, ← Int.ofNat_tdiv]
      generalize (m + (atN (farN m) j).2) / (atN (farN m) (j + 1)).2 = T at hle ⊢
      rw [w64_in (by omega) (by omega)]
    have hn : nxtF (m : Int) (L.getD (w64 (k - 1)).toNat (0, 0)) (L.getD k.toNat (0, 0)) = cst (atN (farN m) (j + 2)) := by
      rw [h5, h6]
      unfold nxtF
      rw [ht]
      unfold cst
      simp only
      rw [plus_nat (by omega) (by omega) d1, plus_nat (by omega) (by omega) d2]
    rw [hn] at hr ⊢
    refine ⟨⟨j + 1, by rw [w64_in (by omega) (by omega)]; omega, by omega, ?_, by omega⟩, by rw [pl_snoc]; exact hr⟩
    rw [h3, take_succ_getD (l := farL m) (i := j + 2) (d := (0, 0)) (by rw [farL_len]; omega), farL_at m (j + 2) (by omega)]
  · exfalso
    apply he'
    rw [h5]
    have := of_decide_eq_true c3
    simp only [cst]; omega
theorem FlS.mu (h : FlS m k L sp n c) (hf : FarOk m) : ((farN m).length : Int).toNat - (w64 (k + 1)).toNat < ((farN m).length : Int).toNat - k.toNat := by
  obtain ⟨j, h1, h2, h3, h4⟩ := h.ex
  have := hf.len100
  rw [w64_in (by omega) (by omega)]; omega
end
end Go.Ev
