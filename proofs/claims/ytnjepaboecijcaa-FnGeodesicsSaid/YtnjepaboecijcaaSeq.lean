/-
  Sequences of sails, their lengths and sines: the plain law.
  Conditions: none.
-/
import Derived.Test.YtnjepaboecijcaaVert
set_option linter.unusedVariables false
set_option linter.unusedSimpArgs false
namespace Go.Ev
open Go.RowKit

/-- A list told by its places. -/
def tab (n : Nat) (f : Nat → Int) : List Int := (List.range n).map f
theorem tab_zero (f : Nat → Int) : tab 0 f = [] := rfl
theorem tab_succ (n : Nat) (f : Nat → Int) : tab (n + 1) f = tab n f ++ [f n] := by simp [tab, List.range_succ]
theorem tab_len (n : Nat) (f : Nat → Int) : (tab n f).length = n := by simp [tab]
theorem tab_at {n i : Nat} {f : Nat → Int} (h : i < n) : (tab n f).getD i 0 = f i := by simp [tab, List.getD, h]
theorem tab_congr {n : Nat} {f g : Nat → Int} (h : ∀ i, i < n → f i = g i) : tab n f = tab n g := by
  unfold tab
  exact List.map_congr_left fun i hi => h i (List.mem_range.1 hi)

/-- The length behind the j-th vertex, and the sine at the one behind it. -/
def lenE (W : List Nat) (j : Nat) : Int := (W.getD (j + 1) 0 : Int) - (W.getD j 0 : Int)
def sinE (t : List Int) (W : List Nat) (j : Nat) : Int := w64 (t.getD (W.getD (j + 1) 0) 0 - 2)
def seqE (t : List Int) (W : List Nat) (i : Nat) : Int := if i % 2 = 0 then lenE W (i / 2) else sinE t W (i / 2)
theorem seqE_even (t : List Int) (W : List Nat) (j : Nat) : seqE t W (2 * j) = lenE W j := by
  unfold seqE; rw [if_pos (by omega)]; congr 1; omega
theorem seqE_odd (t : List Int) (W : List Nat) (j : Nat) : seqE t W (2 * j + 1) = sinE t W j := by
  unfold seqE; rw [if_neg (by omega)]; congr 1; omega
def seqL (t : List Int) (W : List Nat) : List Int := tab (2 * W.length - 3) (seqE t W)
def lenL (t : List Int) (W : List Nat) : List Int := tab (W.length - 1) (lenE W)
def sinL (t : List Int) (W : List Nat) : List Int := tab (W.length - 2) (sinE t W)

/-! ### The loop of 'sequence' -/

theorem nat_at {W : List Nat} {m : Nat} (hi : m < W.length) : (W.map Int.ofNat).getD m 0 = (W.getD m 0 : Int) := by
  simp [List.getD, hi]

structure SeqI (t : List Int) (W : List Nat) (k : Int) (L sp : List Value) (n c : Nat) : Prop where
  lo : 1 ≤ k
  hi : k ≤ (W.length : Int)
  row : Row L sp n c 1
  lst : L = il (tab (2 * k.toNat - 3) (seqE t W))
  num : n ≤ 2 * k.toNat
theorem SeqI.start (t : List Int) {W : List Nat} (h : 1 ≤ W.length) : SeqI t W 1 [] [] 0 0 := ⟨by omega, by omega, Row.empty, rfl, by omega⟩
section
variable {t : List Int} {W : List Nat} {k : Int} {L sp sp' : List Value} {n c c' : Nat}
theorem len_val (h1 : 1 ≤ k) (h2 : k < (W.length : Int)) (h3 : W.length ≤ 2000) (h4 : ∀ x ∈ W, x < 2000) :
    w64 ((W.map Int.ofNat).getD k.toNat 0 - (W.map Int.ofNat).getD (w64 (k - 1)).toNat 0) = lenE W (k.toNat - 1) := by
  rw [w64_in (n := k - 1) (by omega) (by omega), nat_at (by omega), nat_at (by omega)]
  have e : (k - 1).toNat = k.toNat - 1 := by omega
  rw [e]
  unfold lenE
  rw [show k.toNat - 1 + 1 = k.toNat by omega]
  have h5 := h4 _ (getD_mem (d := 0) (show k.toNat < W.length by omega))
  have h6 := h4 _ (getD_mem (d := 0) (show k.toNat - 1 < W.length by omega))
  rw [w64_in (by omega) (by omega)]
theorem pre_lt {N : Nat} (h1 : 1 ≤ k) (h2 : k < (W.length : Int)) (h3 : W.length ≤ 2000) (hW : ∀ x ∈ W, x < N) :
    0 ≤ (W.map Int.ofNat).getD (w64 (k - 1)).toNat 0 ∧ (W.map Int.ofNat).getD (w64 (k - 1)).toNat 0 < (N : Int) ∧ 0 ≤ w64 (k - 1) ∧ w64 (k - 1) < (W.length : Int) := by
  rw [w64_in (n := k - 1) (by omega) (by omega), nat_at (by omega)]
  have := hW _ (getD_mem (d := 0) (show (k - 1).toNat < W.length by omega))
  omega
theorem SeqI.first (h : SeqI t W k L sp n c) (hk : k < (W.length : Int)) (hl : W.length ≤ 2000) (h4 : ∀ x ∈ W, x < 2000) (h1 : ¬ k > 1) {v : Int} (hv : v = w64 ((W.map Int.ofNat).getD k.toNat 0 - (W.map Int.ofNat).getD (w64 (k - 1)).toNat 0))
    (hr : Row (L ++ [iv v]) sp' (n + 1) c' 1) : SeqI t W (w64 (k + 1)) (L ++ [iv v]) sp' (n + 1) c' := by
  have h0 := h.lo
  have hk1 : k = 1 := by omega
  subst hk1
  rw [len_val (by omega) hk hl h4] at hv
  subst hv
  rw [w64_in (by omega) (by omega)]
  refine ⟨by omega, by omega, hr, ?_, by have := h.num; omega⟩
  rw [h.lst]
  show _ = il (tab (0 + 1) (seqE t W))
  rw [tab_succ, il_snoc]
  rfl
theorem SeqI.next (h : SeqI t W k L sp n c) (hk : k < (W.length : Int)) (hl : W.length ≤ 2000) (h4 : ∀ x ∈ W, x < 2000) (h1 : k > 1) {u v : Int} (hu : u = w64 (t.getD ((W.map Int.ofNat).getD (w64 (k - 1)).toNat 0).toNat 0 - 2))
    (hv : v = w64 ((W.map Int.ofNat).getD k.toNat 0 - (W.map Int.ofNat).getD (w64 (k - 1)).toNat 0))
    (hr : Row (L ++ [iv u] ++ [iv v]) sp' (n + 1 + 1) c' 1) : SeqI t W (w64 (k + 1)) (L ++ [iv u] ++ [iv v]) sp' (n + 1 + 1) c' := by
  have h0 := h.lo
  rw [len_val (by omega) hk hl h4] at hv
  rw [w64_in (n := k - 1) (by omega) (by omega), nat_at (by omega)] at hu
  subst hv hu
  rw [w64_in (by omega) (by omega)]
  refine ⟨by omega, by omega, hr, ?_, by have := h.num; omega⟩
  obtain ⟨j, rfl⟩ : ∃ j : Nat, k = (j : Int) + 2 := ⟨(k - 2).toNat, by omega⟩
  rw [h.lst, show 2 * ((j : Int) + 2 + 1).toNat - 3 = 2 * j + 1 + 1 + 1 by omega, show 2 * ((j : Int) + 2).toNat - 3 = 2 * j + 1 by omega,
    tab_succ (2 * j + 1 + 1), il_snoc, tab_succ (2 * j + 1), il_snoc, seqE_odd, show 2 * j + 1 + 1 = 2 * (j + 1) by omega, seqE_even,
    show ((j : Int) + 2).toNat - 1 = j + 1 by omega, show ((j : Int) + 2 - 1).toNat = j + 1 by omega]
  rfl
theorem SeqI.fin (h : SeqI t W k L sp n c) (hk : ¬ k < (W.length : Int)) : L = il (seqL t W) := by
  have h2 := h.hi; have h3 := h.lo
  rw [h.lst, show k.toNat = W.length by omega]
  rfl
end

/-! ### Every second number -/

/-- How many numbers are at every second place of n, from the place f on. -/
def evN (n f : Nat) : Nat := (n + 1 - f) / 2
def evL (xs : List Int) (f : Nat) : List Int := tab (evN xs.length f) fun j => xs.getD (f + 2 * j) 0
structure EvI (xs : List Int) (f : Nat) (i : Int) (L sp : List Value) (n c : Nat) (j : Nat) : Prop where
  at_ : i = (f : Int) + 2 * j
  hi : i ≤ (xs.length : Int) + 1
  row : Row L sp n c 1
  lst : L = il (tab j fun j => xs.getD (f + 2 * j) 0)
  num : n = j
theorem EvI.start (xs : List Int) (f : Nat) (hf : f ≤ 1) : EvI xs f (f : Int) [] [] 0 0 0 := ⟨by omega, by omega, Row.empty, rfl, rfl⟩
section
variable {xs : List Int} {f : Nat} {i : Int} {L sp sp' : List Value} {n c c' j : Nat}
theorem EvI.lo (h : EvI xs f i L sp n c j) : 0 ≤ i := by have := h.at_; omega
theorem EvI.next (h : EvI xs f i L sp n c j) (hi : i < (xs.length : Int)) (hl : xs.length ≤ 2000000) (hr : Row (L ++ [iv (xs.getD i.toNat 0)]) sp' (n + 1) c' 1) :
    EvI xs f (w64 (i + 2)) (L ++ [iv (xs.getD i.toNat 0)]) sp' (n + 1) c' (j + 1) := by
  have h1 := h.at_
  rw [w64_in (by omega) (by omega)]
  refine ⟨by omega, by omega, hr, ?_, by rw [h.num]⟩
  rw [tab_succ, il_snoc, h.lst, show i.toNat = f + 2 * j by omega]
theorem EvI.mu (h : EvI xs f i L sp n c j) (hi : i < (xs.length : Int)) (hl : xs.length ≤ 2000000) : ((xs.length : Int) + 1 - w64 (i + 2)).toNat < ((xs.length : Int) + 1 - i).toNat := by
  have h1 := h.at_
  rw [w64_in (by omega) (by omega)]
  omega
theorem EvI.fin (h : EvI xs f i L sp n c j) (hi : ¬ i < (xs.length : Int)) : L = il (evL xs f) ∧ 2 * n ≤ xs.length + 1 := by
  have h1 := h.at_; have h2 := h.hi; have h3 := h.num
  have e : evN xs.length f = j := by unfold evN; omega
  exact ⟨by rw [h.lst, evL, e], by omega⟩
end
theorem evL_seq0 (t : List Int) {W : List Nat} (h : 2 ≤ W.length) : evL (seqL t W) 0 = lenL t W := by
  unfold evL lenL
  have e : evN (seqL t W).length 0 = W.length - 1 := by unfold evN seqL; rw [tab_len]; omega
  rw [e]
  refine tab_congr fun i hi => ?_
  unfold seqL
  rw [Nat.zero_add, tab_at (by omega), seqE_even]
theorem evL_seq1 (t : List Int) {W : List Nat} (h : 2 ≤ W.length) : evL (seqL t W) 1 = sinL t W := by
  unfold evL sinL
  have e : evN (seqL t W).length 1 = W.length - 2 := by unfold evN seqL; rw [tab_len]; omega
  rw [e]
  refine tab_congr fun i hi => ?_
  unfold seqL
  rw [Nat.add_comm 1, tab_at (by omega), seqE_odd]

/-! ### The vertices of a list with its ends -/

theorem vert_form (x : Int) (cs : List Int) : ∃ M : List Nat, vertTo (x :: cs ++ [x]) (x :: cs ++ [x]).length = 0 :: M ++ [cs.length + 1] ∧ ∀ k ∈ M, 1 ≤ k ∧ k ≤ cs.length := by
  have hlen : (x :: cs ++ [x]).length = cs.length + 2 := by simp
  refine ⟨((List.range cs.length).map (· + 1)).filter (vertP (x :: cs ++ [x])), ?_, ?_⟩
  · unfold vertTo
    rw [hlen, List.range_succ, List.filter_append, List.range_succ_eq_map, List.filter_cons]
    have h0 : vertP (x :: cs ++ [x]) 0 = true := by simp [vertP]
    have h1 : vertP (x :: cs ++ [x]) (cs.length + 1) = true := by simp [vertP]
    rw [if_pos h0]
    congr 1
    rw [show List.filter (vertP (x :: cs ++ [x])) [cs.length + 1] = [cs.length + 1] by rw [List.filter_cons, if_pos h1]; rfl]
  · intro k hk
    have := (List.mem_filter.1 hk).1
    obtain ⟨j, hj, rfl⟩ := List.mem_map.1 this
    have := List.mem_range.1 hj
    omega
theorem vert_two (x : Int) (cs : List Int) : 2 ≤ (vertTo (x :: cs ++ [x]) (x :: cs ++ [x]).length).length := by
  obtain ⟨M, h, _⟩ := vert_form x cs
  rw [h]; simp
theorem inner_at {x : Int} {cs : List Int} {k : Nat} (h1 : 1 ≤ k) (h2 : k ≤ cs.length) : (x :: cs ++ [x]).getD k 0 = cs.getD (k - 1) 0 := by
  obtain ⟨j, rfl⟩ : ∃ j, k = j + 1 := ⟨k - 1, by omega⟩
  have hj : j < cs.length := by omega
  simp [List.getD, List.getElem?_append_left, hj]
theorem sinE_ends (x y : Int) (cs : List Int) {M : List Nat} (hM : ∀ k ∈ M, 1 ≤ k ∧ k ≤ cs.length) {j : Nat} (hj : j < M.length) : sinE (x :: cs ++ [x]) (0 :: M ++ [cs.length + 1]) j = sinE (y :: cs ++ [y]) (0 :: M ++ [cs.length + 1]) j := by
  unfold sinE
  have e : (0 :: M ++ [cs.length + 1]).getD (j + 1) 0 = M.getD j 0 := by simp [List.getD, List.getElem?_append_left, hj]
  have := hM _ (getD_mem (d := 0) hj)
  rw [e, inner_at this.1 this.2, inner_at this.1 this.2]
def vts (t : List Int) : List Nat := vertTo t t.length
theorem vts_ends (x y : Int) (cs : List Int) : vts (x :: cs ++ [x]) = vts (y :: cs ++ [y]) := by
  unfold vts
  rw [show (x :: cs ++ [x]).length = cs.length + 2 by simp, show (y :: cs ++ [y]).length = cs.length + 2 by simp, vertTo_ends x y cs _ (Nat.le_refl _)]
theorem sin_ends (x y : Int) (cs : List Int) : sinL (x :: cs ++ [x]) (vts (x :: cs ++ [x])) = sinL (y :: cs ++ [y]) (vts (y :: cs ++ [y])) := by
  rw [vts_ends x y]
  obtain ⟨M, h, hM⟩ := vert_form y cs
  unfold sinL vts
  rw [h]
  refine tab_congr fun i hi => sinE_ends x y cs hM (by simpa using hi)
theorem len_ends (x y : Int) (cs : List Int) : lenL (x :: cs ++ [x]) (vts (x :: cs ++ [x])) = lenL (y :: cs ++ [y]) (vts (y :: cs ++ [y])) := by
  rw [vts_ends x y]; rfl
theorem seq_ends (x y : Int) (cs : List Int) : seqL (x :: cs ++ [x]) (vts (x :: cs ++ [x])) = seqL (y :: cs ++ [y]) (vts (y :: cs ++ [y])) := by
  rw [vts_ends x y]
  obtain ⟨M, h, hM⟩ := vert_form y cs
  unfold seqL vts
  rw [h]
  refine tab_congr fun i hi => ?_
  unfold seqE
  split
  · rfl
  · exact sinE_ends x y cs hM (by simp at hi; omega)

theorem sailT_head {a b c d t0 : Int} {P : List (Int × Int)} {T : List Int} (h : sailT a b c d t0 = some (P, T)) : ∃ cs, T = t0 :: cs := by
  unfold sailT at h
  cases hr : sailR a b c d with
  | none => rw [hr] at h; cases h
  | some r =>
    rw [hr] at h
    simp only [Option.map_some, Option.some.injEq, Prod.mk.injEq] at h
    exact ⟨_, h.2.symm⟩
theorem vts_two {a b c d t0 : Int} {P : List (Int × Int)} {T : List Int} (h : sailT a b c d t0 = some (P, T)) : 2 ≤ (vts (T ++ [t0])).length := by
  obtain ⟨cs, rfl⟩ := sailT_head h
  exact vert_two t0 cs

/-! ### The loop of 'l03Parts' -/

structure PartI (t : List Int) (i : Int) (now : Int) (L sp : List Value) (n c : Nat) (M sq : List Value) (k d : Nat) : Prop where
  lo : 1 ≤ i
  hi : i ≤ (t.length : Int)
  row : Row L sp n c 1
  row2 : Row M sq k d 1
  lst : L = il (tab ((vertTo t i.toNat).length - 1) (lenE (vertTo t t.length)))
  lst2 : M = il (tab (if i < (t.length : Int) then (vertTo t i.toNat).length - 1 else (vertTo t t.length).length - 2) (sinE t (vertTo t t.length)))
  now : i < (t.length : Int) → now = i - 1 - ((vertTo t i.toNat).getD ((vertTo t i.toNat).length - 1) 0 : Int)
  num : n ≤ i.toNat
  num2 : k ≤ i.toNat
  pos : 1 ≤ (vertTo t i.toNat).length
theorem vertTo_one (t : List Int) : vertTo t 1 = [0] := by
  have : vertP t 0 = true := by simp [vertP]
  simp [vertTo, this, List.filter_cons, List.range_succ]
theorem PartI.start {t : List Int} (h : 2 ≤ t.length) : PartI t 1 0 [] [] 0 0 [] [] 0 0 := by
  have e : (1 : Int).toNat = 1 := rfl
  refine ⟨by omega, by omega, Row.empty, Row.empty, ?_, ?_, fun _ => ?_, by omega, by omega, ?_⟩
  · rw [e, vertTo_one]; rfl
  · rw [if_pos (by omega), e, vertTo_one]; rfl
  · rw [e, vertTo_one]; rfl
  · rw [e, vertTo_one]; exact Nat.le_refl _
theorem vertTo_app (t : List Int) {i : Nat} : ∀ {N : Nat}, i ≤ N → ∃ R, vertTo t N = vertTo t i ++ R
  | 0, h => ⟨[], by rw [show i = 0 by omega]; simp⟩
  | N + 1, h => by
    by_cases hi : i = N + 1
    · exact ⟨[], by rw [hi]; simp⟩
    · obtain ⟨R, hR⟩ := vertTo_app t (N := N) (i := i) (by omega)
      exact ⟨R ++ (if vertP t N then [N] else []), by rw [vertTo_succ, hR, List.append_assoc]⟩
theorem vertTo_at {t : List Int} {i N j : Nat} (hi : i ≤ N) (hj : j < (vertTo t i).length) : (vertTo t N).getD j 0 = (vertTo t i).getD j 0 := by
  obtain ⟨R, hR⟩ := vertTo_app t hi
  rw [hR]
  simp [List.getD, List.getElem?_append_left, hj]
section
variable {t : List Int} {i now : Int} {L sp sp' M sq sq' : List Value} {n c c' k d d' : Nat}
theorem vertP_iff2 (h0 : 1 ≤ i) (hi : i < (t.length : Int)) (hl : t.length ≤ 2000) : vertP t i.toNat = true ↔ (i = w64 ((t.length : Int) - 1) ∨ t.getD i.toNat 0 > 2) := by
  have := vert_iff (t := t) (i := i) (by omega) hi hl
  rw [this]
  constructor
  · rintro (h | h | h)
    · omega
    · exact .inl h
    · exact .inr h
  · rintro (h | h)
    · exact .inr (.inl h)
    · exact .inr (.inr h)
/-- A vertex at i: its place among all vertices, and what is behind it. -/
theorem vert_add (h0 : 1 ≤ i) (hi : i < (t.length : Int)) (hp : vertP t i.toNat = true) : vertTo t (i + 1).toNat = vertTo t i.toNat ++ [i.toNat] := by
  rw [show (i + 1).toNat = i.toNat + 1 by omega, vertTo_succ, if_pos hp]
theorem lenE_at (h0 : 1 ≤ i) (hi : i < (t.length : Int)) (hp : vertP t i.toNat = true) (hpos : 1 ≤ (vertTo t i.toNat).length) : lenE (vertTo t t.length) ((vertTo t i.toNat).length - 1) = i - ((vertTo t i.toNat).getD ((vertTo t i.toNat).length - 1) 0 : Int) := by
  unfold lenE
  have h1 := vert_add h0 hi hp
  have e1 : (vertTo t t.length).getD ((vertTo t i.toNat).length - 1 + 1) 0 = i.toNat := by
    rw [vertTo_at (i := (i + 1).toNat) (by omega) (by rw [h1]; simp; omega), h1, show (vertTo t i.toNat).length - 1 + 1 = (vertTo t i.toNat).length by omega]
    simp [List.getD]
  have e2 : (vertTo t t.length).getD ((vertTo t i.toNat).length - 1) 0 = (vertTo t i.toNat).getD ((vertTo t i.toNat).length - 1) 0 := vertTo_at (by omega) (by omega)
  rw [e1, e2]
  omega
theorem sinE_at (h0 : 1 ≤ i) (hi : i < (t.length : Int)) (hp : vertP t i.toNat = true) (hpos : 1 ≤ (vertTo t i.toNat).length) : sinE t (vertTo t t.length) ((vertTo t i.toNat).length - 1) = w64 (t.getD i.toNat 0 - 2) := by
  unfold sinE
  have h1 := vert_add h0 hi hp
  have e1 : (vertTo t t.length).getD ((vertTo t i.toNat).length - 1 + 1) 0 = i.toNat := by
    rw [vertTo_at (i := (i + 1).toNat) (by omega) (by rw [h1]; simp; omega), h1, show (vertTo t i.toNat).length - 1 + 1 = (vertTo t i.toNat).length by omega]
    simp [List.getD]
  rw [e1]
theorem last_lt (h : 1 ≤ (vertTo t i.toNat).length) : (vertTo t i.toNat).getD ((vertTo t i.toNat).length - 1) 0 < i.toNat := vertTo_lt (getD_mem (by omega))
theorem PartI.now1 (h : PartI t i now L sp n c M sq k d) (hi : i < (t.length : Int)) (hl : t.length ≤ 2000) : w64 (now + 1) = i - ((vertTo t i.toNat).getD ((vertTo t i.toNat).length - 1) 0 : Int) := by
  have h1 := h.now hi; have h2 := last_lt h.pos; have h3 := h.lo
  rw [h1, w64_in (by omega) (by omega)]; omega
theorem PartI.skip (h : PartI t i now L sp n c M sq k d) (hi : i < (t.length : Int)) (hl : t.length ≤ 2000) (hv : ¬ (i = w64 ((t.length : Int) - 1) ∨ t.getD i.toNat 0 > 2)) :
    PartI t (w64 (i + 1)) (w64 (now + 1)) L sp n c M sq k d := by
  have h0 := h.lo
  have hp : ¬ vertP t i.toNat = true := fun hh => hv ((vertP_iff2 h0 hi hl).1 hh)
  have hne : i ≠ (t.length : Int) - 1 := fun hh => hv (.inl (by rw [w64_in (by omega) (by omega)]; exact hh))
  have e : vertTo t (i + 1).toNat = vertTo t i.toNat := by rw [show (i + 1).toNat = i.toNat + 1 by omega, vertTo_succ, if_neg hp, List.append_nil]
  have hn := h.now1 hi hl
  have h5 := h.num; have h6 := h.num2
  rw [w64_in (n := i + 1) (by omega) (by omega)]
  refine ⟨by omega, by omega, h.row, h.row2, by rw [e]; exact h.lst, ?_, fun _ => by rw [e, hn]; omega, by omega, by omega, by rw [e]; exact h.pos⟩
  have := h.lst2
  rw [if_pos hi] at this
  rw [if_pos (by omega), e]
  exact this
theorem PartI.vert (h : PartI t i now L sp n c M sq k d) (hi : i < (t.length : Int)) (hl : t.length ≤ 2000) (hlt : ¬ i = w64 ((t.length : Int) - 1)) (hv : t.getD i.toNat 0 > 2)
    {x y : Int} (hx : x = w64 (now + 1)) (hy : y = w64 (t.getD i.toNat 0 - 2)) (hr : Row (L ++ [iv x]) sp' (n + 1) c' 1) (hr2 : Row (M ++ [iv y]) sq' (k + 1) d' 1) :
    PartI t (w64 (i + 1)) 0 (L ++ [iv x]) sp' (n + 1) c' (M ++ [iv y]) sq' (k + 1) d' := by
  subst hx hy
  have h0 := h.lo
  have hp := (vertP_iff2 h0 hi hl).2 (.inr hv)
  rw [w64_in (by omega) (by omega)] at hlt
  have e := vert_add h0 hi hp
  have hn := h.now1 hi hl
  have h5 := h.num; have h6 := h.num2; have h7 := h.pos
  rw [w64_in (n := i + 1) (by omega) (by omega)]
  have el : (vertTo t (i + 1).toNat).length = (vertTo t i.toNat).length + 1 := by rw [e]; simp
  refine ⟨by omega, by omega, hr, hr2, ?_, ?_, fun _ => ?_, by omega, by omega, by omega⟩
  · rw [el, show (vertTo t i.toNat).length + 1 - 1 = (vertTo t i.toNat).length - 1 + 1 by omega, tab_succ, il_snoc, h.lst, hn, lenE_at h0 hi hp h7]
  · have := h.lst2
    rw [if_pos hi] at this
    rw [if_pos (by omega), el, show (vertTo t i.toNat).length + 1 - 1 = (vertTo t i.toNat).length - 1 + 1 by omega, tab_succ, il_snoc, this, sinE_at h0 hi hp h7]
  · rw [e]
    simp [List.getD]
    omega
theorem PartI.last (h : PartI t i now L sp n c M sq k d) (hi : i < (t.length : Int)) (hl : t.length ≤ 2000) (hlt : i = w64 ((t.length : Int) - 1))
    {x z : Int} (hx : x = w64 (now + 1)) (hr : Row (L ++ [iv x]) sp' (n + 1) c' 1) :
    PartI t (w64 (i + 1)) z (L ++ [iv x]) sp' (n + 1) c' M sq k d := by
  subst hx
  have h0 := h.lo
  have hp := (vertP_iff2 h0 hi hl).2 (.inl hlt)
  rw [w64_in (by omega) (by omega)] at hlt
  have e := vert_add h0 hi hp
  have hn := h.now1 hi hl
  have h5 := h.num; have h6 := h.num2; have h7 := h.pos
  rw [w64_in (n := i + 1) (by omega) (by omega)]
  have el : (vertTo t (i + 1).toNat).length = (vertTo t i.toNat).length + 1 := by rw [e]; simp
  refine ⟨by omega, by omega, hr, h.row2, ?_, ?_, fun hh => by omega, by omega, by omega, by omega⟩
  · rw [el, show (vertTo t i.toNat).length + 1 - 1 = (vertTo t i.toNat).length - 1 + 1 by omega, tab_succ, il_snoc, h.lst, hn, lenE_at h0 hi hp h7]
  · have := h.lst2
    rw [if_pos hi] at this
    rw [if_neg (by omega), this]
    have : vertTo t t.length = vertTo t (i + 1).toNat := by congr 1; omega
    rw [this, el]
    rfl
theorem PartI.fin (h : PartI t i now L sp n c M sq k d) (hi : ¬ i < (t.length : Int)) : L = il (lenL t (vertTo t t.length)) ∧ M = il (sinL t (vertTo t t.length)) ∧ n ≤ t.length ∧ k ≤ t.length := by
  have h1 := h.lo; have h2 := h.hi; have h3 := h.num; have h4 := h.num2
  have e : i.toNat = t.length := by omega
  have h5 := h.lst2
  rw [if_neg hi] at h5
  refine ⟨by rw [h.lst, e]; rfl, h5, by omega, by omega⟩
end

/-! ### The loop that weaves lengths and sines -/

structure WeavI (t : List Int) (W : List Nat) (i : Int) (L sp : List Value) (n c : Nat) : Prop where
  lo : 0 ≤ i
  hi : i ≤ (W.length : Int) - 1
  row : Row L sp n c 1
  lst : L = il (tab (if i < (W.length : Int) - 1 then 2 * i.toNat else 2 * W.length - 3) (seqE t W))
  num : n ≤ 2 * i.toNat
theorem WeavI.start (t : List Int) {W : List Nat} (h : 2 ≤ W.length) : WeavI t W 0 [] [] 0 0 := ⟨by omega, by omega, Row.empty, by rw [if_pos (by omega)]; rfl, by omega⟩
section
variable {t : List Int} {W : List Nat} {i : Int} {L sp sp' : List Value} {n c c' : Nat}
theorem WeavI.both (h : WeavI t W i L sp n c) (hi : i < ((lenL t W).length : Int)) (hs : i < ((sinL t W).length : Int)) (hl : W.length ≤ 2000) {u v : Int} (hu : u = (lenL t W).getD i.toNat 0) (hv : v = (sinL t W).getD i.toNat 0)
    (hr : Row (L ++ [iv u] ++ [iv v]) sp' (n + 1 + 1) c' 1) : WeavI t W (w64 (i + 1)) (L ++ [iv u] ++ [iv v]) sp' (n + 1 + 1) c' := by
  have h0 := h.lo; have h1 := h.num
  unfold lenL at hi hu
  unfold sinL at hs hv
  rw [tab_len] at hi hs
  rw [tab_at (by omega)] at hu hv
  subst hu hv
  rw [w64_in (by omega) (by omega)]
  refine ⟨by omega, by omega, hr, ?_, by omega⟩
  have h2 := h.lst
  rw [if_pos (by omega)] at h2
  rw [if_pos (by omega), show 2 * (i + 1).toNat = 2 * i.toNat + 1 + 1 by omega, tab_succ, il_snoc, tab_succ, il_snoc, ← h2, seqE_even, seqE_odd]
theorem WeavI.end_ (h : WeavI t W i L sp n c) (hi : i < ((lenL t W).length : Int)) (hs : ¬ i < ((sinL t W).length : Int)) (hl : W.length ≤ 2000) {u : Int} (hu : u = (lenL t W).getD i.toNat 0)
    (hr : Row (L ++ [iv u]) sp' (n + 1) c' 1) : WeavI t W (w64 (i + 1)) (L ++ [iv u]) sp' (n + 1) c' := by
  have h0 := h.lo; have h1 := h.num
  unfold lenL at hi hu
  unfold sinL at hs
  rw [tab_len] at hi hs
  rw [tab_at (by omega)] at hu
  subst hu
  rw [w64_in (by omega) (by omega)]
  refine ⟨by omega, by omega, hr, ?_, by omega⟩
  have h2 := h.lst
  rw [if_pos (by omega)] at h2
  rw [if_neg (by omega), show 2 * W.length - 3 = 2 * i.toNat + 1 by omega, tab_succ, il_snoc, ← h2, seqE_even]
theorem WeavI.fin (h : WeavI t W i L sp n c) (hi : ¬ i < ((lenL t W).length : Int)) (h2 : 2 ≤ W.length) : L = il (seqL t W) := by
  unfold lenL at hi
  rw [tab_len] at hi
  have := h.lst
  rw [if_neg (by omega)] at this
  exact this
end

end Go.Ev
