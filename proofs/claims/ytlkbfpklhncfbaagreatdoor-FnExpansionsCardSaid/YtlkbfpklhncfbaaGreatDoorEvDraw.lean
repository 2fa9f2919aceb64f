/-
  The evaluator, part 5: a region whose order is drawn: first reads, calls that leave all old memory alone, and new variables, in whatever order; then the rest, one by one. One walk in the text's order serves every order.
  Conditions: none.
-/
import Derived.Test.YtlkbfpklhncfbaaGreatDoorEvMake
set_option linter.unusedVariables false
set_option linter.unusedSimpArgs false
namespace Go.Ev
open Go.RowKit

/-- What an operation of the head does: it yields a value that no new block is needed for, or lays a new variable. -/
inductive HR where
  | q (v : Value)
  | al (t : Nat) (z : List Value)
  | st (x : Nat) (z : List Value)

def HR.val : HR → Value
  | .q v => v
  | .al .. => undef
  | .st .. => undef

/-- The slot of the new variable that operation j fills as a whole. -/
def stSlot (o : Oper) : Option Nat := match o.op, o.guard, o.dst with
  | .store _ (.tmp x) _, none, none => some x
  | _, _, _ => none
def stAt (ops : Array Oper) (j : Nat) : Option Nat := (ops[j]?).bind stSlot

def dstAt (ops : Array Oper) (i : Nat) : Option Nat := (ops[i]?).bind (·.dst)

def looksN (ops : Array Oper) (j : Nat) : List Nat := match ops[j]? with
  | some o => o.looksAt ops
  | none => []

/-- The lexical state before operation k. -/
def aLex (ops : Array Oper) (rec : Nat → HR) (a0 : Act) : Nat → Act
  | 0 => a0
  | k + 1 => (aLex ops rec a0 k).put (dstAt ops k) (rec k).val

/-- One value in every world that the local memory fits; a call may lay new blocks. -/
def quietRun (P : Program) (Cl : World → Prop) (o : Oper) (a : Act) (v : Value) : Prop :=
  ∀ w, Cl w → match (execOp a.eval o).run P w with
    | .ok (.value u) w' => w' = w ∧ u = v
    | .ok (.enter f args) w' => w' = w ∧ Calls P f args w (fun e w'' => e = .returned v ∧ Below w.heap.size w w'')
    | _ => False

def YQ (P : Program) (ops : Array Oper) (Cl : World → Prop) (o : Oper) (v : Value) (a : Act) : Prop :=
  (Region.wanted o (yielded ops a.tmps) = true ∧ quietRun P Cl o a v) ∨ (Region.wanted o (yielded ops a.tmps) = false ∧ v = undef)

def headListed (n m : Nat) : Array Bool := ((List.range m).map (fun i => decide (i < n))).toArray

/-- What an operation waits for, at first or at second hand. -/
def afterOf (ops : Array Oper) (k : Nat) : List Nat := match ops[k]? with
  | some o => (o.after.toList.filter fun e => Region.binds .any e).map (·.on)
  | none => []

def reachL (ops : Array Oper) : Nat → List (List Nat)
  | 0 => []
  | k + 1 => reachL ops k ++ [((afterOf ops k).flatMap fun j => if j < k then j :: (reachL ops k).getD j [] else []).eraseDups]

def reach (ops : Array Oper) (t : Nat) : List Nat := ((afterOf ops t).flatMap fun j => if j < t then j :: (reachL ops t).getD j [] else []).eraseDups

theorem reachL_len (ops : Array Oper) : ∀ k, (reachL ops k).length = k
  | 0 => rfl
  | k + 1 => by simp [reachL, reachL_len ops k]

theorem reachL_get (ops : Array Oper) : ∀ (k t : Nat), t < k → (reachL ops k).getD t [] = reach ops t
  | 0, t, h => by omega
  | k + 1, t, h => by
    rw [reachL]
    by_cases htk : t = k
    · subst htk
      have : (reachL ops t).length = t := reachL_len ops t
      rw [List.getD_eq_getElem?_getD, List.getElem?_append_right (by omega), this]
      simp [reach]
    · rw [List.getD_eq_getElem?_getD, List.getElem?_append_left (by rw [reachL_len]; omega), ← List.getD_eq_getElem?_getD]
      exact reachL_get ops k t (by omega)

theorem afterOf_mem {ops : Array Oper} {k j : Nat} (h : j ∈ afterOf ops k) : ∃ o e, ops[k]? = some o ∧ e ∈ o.after ∧ Region.binds .any e = true ∧ e.on = j := by
  unfold afterOf at h
  split at h
  · rename_i o ho
    obtain ⟨e, he, rfl⟩ := List.mem_map.1 h
    obtain ⟨h1, h2⟩ := List.mem_filter.1 he
    exact ⟨o, e, ho, by simpa using h1, h2, rfl⟩
  · cases h

theorem reach_listed {ops : Array Oper} {n : Nat} {listed : Array Bool} (hinv : HeadInv .any ops n listed) : ∀ (f t : Nat), t ≤ f → ∀ i ∈ reach ops t,
    (∀ o, ops[t]? = some o → ∀ e ∈ o.after, Region.binds .any e = true → listed.getD e.on false = true) → listed.getD i false = true := by
  intro f
  induction f with
  | zero =>
    intro t ht i hi hl
    have : t = 0 := by omega
    subst this
    simp [reach] at hi
  | succ f ih =>
    intro t ht i hi hl
    unfold reach at hi
    rw [List.mem_eraseDups, List.mem_flatMap] at hi
    obtain ⟨j, hj, hi⟩ := hi
    obtain ⟨o, e, ho, he, hb, rfl⟩ := afterOf_mem hj
    have hjl := hl o ho e he hb
    split at hi
    · rename_i hjt
      rcases List.mem_cons.1 hi with rfl | hi
      · exact hjl
      · rw [reachL_get ops t _ hjt] at hi
        exact ih e.on (by omega) i hi fun o' ho' e' he' hb' => hinv.closed e.on o' ho' hjl e' he' hb'
    · cases hi

/-- The check of a region: the first n operations are its head. 'als': is operation i a new variable? -/
structure HeadOk (ops : Array Oper) (s n : Nat) (als : Nat → Bool) : Prop where
  sel : Region.noSelect ops = true
  le : n ≤ ops.size
  wait : ∀ t i, n ≤ t → t < ops.size → s ≤ i → i < n → i ∈ reach ops t
  uniq : ∀ i j d, i < n → j < n → dstAt ops i = some d → dstAt ops j = some d → i = j
  look : ∀ i j d, i < n → s ≤ j → j < n → dstAt ops i = some d → d ∈ looksN ops j → i < s ∨ (i < j ∧ Region.waitsFor .any ops j i = true ∧ als i = false) ∨ (j < i ∧ Region.waitsFor .any ops i j = true) ∨ stAt ops j = some d
  back : ∀ j o, s ≤ j → j < n → ops[j]? = some o → ∀ e ∈ o.after, Region.binds .any e = true → e.on < j
  st : ∀ j x, s ≤ j → j < n → stAt ops j = some x → ∃ i, s ≤ i ∧ i < n ∧ dstAt ops i = some x ∧ als i = true ∧ Region.waitsFor .any ops j i = true ∧ ∀ k, s ≤ k → k < n → stAt ops k = some x → k = j

section
variable {P : Program} {ops : Array Oper} {rec : Nat → HR} {a0 : Act} {s n : Nat} {als : Nat → Bool}

theorem put_size (a : Act) (d : Option Nat) (v : Value) : (a.put d v).tmps.size = a.tmps.size := by cases d <;> simp [Act.put]
theorem put_defers (a : Act) (d : Option Nat) (v : Value) : (a.put d v).defers = a.defers := by cases d <;> rfl
theorem put_same (a : Act) (d : Nat) (v : Value) (h : d < a.tmps.size) : (a.put (some d) v).tmps[d]? = some v := by simp [Act.put, h]
theorem put_other (a : Act) (x : Option Nat) (t : Nat) (v : Value) (h : x ≠ some t) : (a.put x v).tmps[t]? = a.tmps[t]? := by
  cases x with
  | none => rfl
  | some d => exact Array.getElem?_setIfInBounds_ne (fun e => h (by rw [e]))

theorem aLex_size : ∀ k, (aLex ops rec a0 k).tmps.size = a0.tmps.size
  | 0 => rfl
  | k + 1 => by rw [aLex, put_size, aLex_size k]

theorem aLex_other : ∀ k t, (∀ i, i < k → dstAt ops i ≠ some t) → (aLex ops rec a0 k).tmps[t]? = a0.tmps[t]?
  | 0, _, _ => rfl
  | k + 1, t, h => by
    rw [aLex, put_other _ _ _ _ (h k (by omega))]
    exact aLex_other k t fun i hi => h i (by omega)

theorem aLex_at (hc : HeadOk ops s n als) : ∀ k, k ≤ n → ∀ i d, i < k → dstAt ops i = some d → d < a0.tmps.size → (aLex ops rec a0 k).tmps[d]? = some (rec i).val
  | 0, _, i, _, hi, _, _ => by omega
  | k + 1, hk, i, d, hi, hd, hlt => by
    rw [aLex]
    by_cases hik : i = k
    · subst hik
      rw [hd]
      exact put_same _ _ _ (by rw [aLex_size]; exact hlt)
    · rw [put_other _ _ _ _ (fun e => hik (hc.uniq i k d (by omega) (by omega) hd e))]
      exact aLex_at hc k (by omega) i d (by omega) hd hlt

/-- What slot dst holds once operation i of the head has come up. -/
def cv (rec : Nat → HR) (ν : Nat → Nat) (i : Nat) : Value := match rec i with
  | .q v => v
  | .al .. => .pointer (some ⟨ν i, 0, none⟩)
  | .st .. => undef

structure Inv (ops : Array Oper) (rec : Nat → HR) (a0 : Act) (n : Nat) (Cl : World → Prop) (B : Nat) (ρ : List Nat) (listed : Array Bool) (a : Act) (w : World) (ν : Nat → Nat) : Prop where
  defers : a.defers = a0.defers
  size : a.tmps.size = a0.tmps.size
  at_ : ∀ i d, i < n → listed.getD i true = true → dstAt ops i = some d → d < a0.tmps.size → a.tmps[d]? = some (cv rec ν i)
  other : ∀ t, (∀ i, i < n → listed.getD i true = true → dstAt ops i ≠ some t) → a.tmps[t]? = a0.tmps[t]?
  cl : Cl w
  blk : ∀ i t z, i < n → listed.getD i true = true → rec i = .al t z → ∃ zz, w.heap[ν i]? = some (.cells zz.toArray t (0, 0)) ∧ zz.length = z.length ∧ B ≤ ν i ∧ ν i ∉ ρ ∧
    (∀ j x z', j < n → listed.getD j true = true → rec j = .st x z' → dstAt ops i = some x → zz = z') ∧ ((∀ j x z', j < n → listed.getD j true = true → rec j = .st x z' → dstAt ops i = some x → False) → zz = z)
  inj : ∀ i j t z t' z', i < n → j < n → listed.getD i true = true → listed.getD j true = true → rec i = .al t z → rec j = .al t' z' → ν i = ν j → i = j

theorem evals_same {o : Oper} {a a' : Act} (hs : ∀ cs b, o.op ≠ .select cs b) (h : ∀ t ∈ o.looksAt ops, a.tmps[t]? = a'.tmps[t]?) :
    execOp a.eval o = execOp a'.eval o ∧ Region.wanted o (yielded ops a.tmps) = Region.wanted o (yielded ops a'.tmps) := by
  constructor
  · refine execOp_congr o hs fun x hx => ?_
    cases x with
    | tmp t =>
      have := h t (List.mem_append_left _ (List.mem_filterMap.2 ⟨.tmp t, by simpa using hx, rfl⟩))
      simp only [Act.eval]
      rw [Array.getD_eq_getD_getElem?, Array.getD_eq_getD_getElem?, this]
    | _ => rfl
  · unfold Region.wanted
    cases hg : o.guard with
    | none => rfl
    | some gw =>
      obtain ⟨g, want⟩ := gw
      have : yielded ops a.tmps g = yielded ops a'.tmps g := by
        unfold yielded
        cases ht : (ops[g]?).bind (·.dst) with
        | none => rfl
        | some t =>
          have := h t (by simp [Oper.looksAt, hg, ht])
          simp [this]
      simp only [this]

theorem getD_true_of_false {listed : Array Bool} {i : Nat} (h : listed.getD i false = true) : listed.getD i true = true := by
  rcases Nat.lt_or_ge i listed.size with h' | h'
  · simp [h'] at h ⊢; exact h
  · simp [Array.getElem?_eq_none h'] at h

theorem agree (hc : HeadOk ops s n als) (hal : ∀ i d, i < n → als i = false → dstAt ops i = some d → ∃ v, rec i = .q v) {Cl : World → Prop} {B : Nat} {ρ : List Nat} {listed : Array Bool} {a : Act} {w : World} {ν : Nat → Nat}
    (inv : Inv ops rec a0 n Cl B ρ listed a w ν) (hinv : HeadInv .any ops n listed) (hs : ∀ i, i < s → listed.getD i true = true) (hpre : ∀ i, i < s → ∃ v, rec i = .q v) {j : Nat} (hsj : s ≤ j) (hj : j < n) (hr : j ∈ Region.ready .any ops listed) : ∀ t ∈ looksN ops j, stAt ops j ≠ some t → a.tmps[t]? = (aLex ops rec a0 j).tmps[t]? := by
  intro t ht hst
  by_cases hx : ∃ i, i < n ∧ dstAt ops i = some t
  · obtain ⟨i, hi, hd⟩ := hx
    rcases hc.look i j t hi hsj hj hd ht with his | ⟨hij, hwf, hna⟩ | ⟨hji, hwf⟩ | hst'
    · obtain ⟨v, hv⟩ := hpre i his
      by_cases hlt : t < a0.tmps.size
      · rw [inv.at_ i t hi (hs i his) hd hlt, aLex_at hc j (by omega) i t (by omega) hd hlt]
        simp [cv, hv, HR.val]
      · rw [Array.getElem?_eq_none (by rw [inv.size]; omega), Array.getElem?_eq_none (by rw [aLex_size]; omega)]
    · obtain ⟨oj, hoj, e, he, hb, hon⟩ := Region.waitsFor_spec hwf
      obtain ⟨_, oj', hoj', hall⟩ := mem_ready.1 hr
      have : oj' = oj := Option.some.inj (hoj'.symm.trans hoj)
      subst this
      have hl := getD_true_of_false (hall e he hb)
      rw [hon] at hl
      obtain ⟨v, hv⟩ := hal i t hi hna hd
      by_cases hlt : t < a0.tmps.size
      · rw [inv.at_ i t hi hl hd hlt, aLex_at hc j (by omega) i t hij hd hlt]
        simp [cv, hv, HR.val]
      · rw [Array.getElem?_eq_none (by rw [inv.size]; omega), Array.getElem?_eq_none (by rw [aLex_size]; omega)]
    · obtain ⟨oi, hoi, e, he, hb, hon⟩ := Region.waitsFor_spec hwf
      obtain ⟨hjun, _⟩ := mem_ready.1 hr
      have hil : i < listed.size := by rw [hinv.size]; exact (Array.getElem?_eq_some_iff.1 hoi).1
      have hnl : listed.getD i true = true → False := fun hl => by
        have h1 : listed.getD i false = true := by simp [hil] at hl ⊢; exact hl
        have := getD_true_of_false (hinv.closed i oi hoi h1 e he hb)
        rw [hon, hjun] at this
        cases this
      rw [inv.other t fun i' hi' hl' hd' => hnl (by rw [← hc.uniq i' i t hi' hi hd' hd]; exact hl'), aLex_other j t fun i' hi' hd' => by
        have := hc.uniq i' i t (by omega) hi hd' hd
        omega]
    · exact absurd hst' hst
  · have hx' : ∀ i, i < n → dstAt ops i ≠ some t := fun i hi hd => hx ⟨i, hi, hd⟩
    rw [inv.other t fun i hi _ => hx' i hi, aLex_other j t fun i hi => hx' i (by omega)]

def cnt (listed : Array Bool) : Nat → Nat
  | 0 => 0
  | k + 1 => cnt listed k + (if listed.getD k true then 0 else 1)

theorem cnt_keep {listed : Array Bool} {i : Nat} : ∀ k, k ≤ i → cnt (listed.setIfInBounds i true) k = cnt listed k
  | 0, _ => rfl
  | k + 1, h => by rw [cnt, cnt, cnt_keep k (by omega), getD_set_ne true (by omega)]

theorem cnt_set {listed : Array Bool} {i : Nat} (h : listed.getD i true = false) : ∀ k, i < k → cnt (listed.setIfInBounds i true) k + 1 = cnt listed k
  | 0, hi => by omega
  | k + 1, hi => by
    rw [cnt, cnt]
    by_cases hik : i = k
    · subst hik
      have hs : (listed.setIfInBounds i true).getD i true = true := by
        rcases Nat.lt_or_ge i listed.size with h' | h'
        · simp [h']
        · simp [Array.getElem?_eq_none h']
      rw [cnt_keep i (Nat.le_refl _), hs, h]
      simp
    · rw [getD_set_ne true hik]
      have := cnt_set h k (by omega)
      omega

theorem cnt_zero {listed : Array Bool} : ∀ k, cnt listed k = 0 → ∀ i, i < k → listed.getD i true = true
  | 0, _, i, hi => by omega
  | k + 1, h, i, hi => by
    rw [cnt] at h
    by_cases hik : i = k
    · subst hik
      cases hg : listed.getD i true with
      | true => rfl
      | false => rw [hg] at h; simp at h
    · exact cnt_zero k (by omega) i (by omega)

theorem first_open {listed : Array Bool} : ∀ k, cnt listed k ≠ 0 → ∃ i, i < k ∧ listed.getD i true = false ∧ ∀ j, j < i → listed.getD j true = true
  | 0, h => absurd rfl h
  | k + 1, h => by
    by_cases h0 : cnt listed k = 0
    · rw [cnt, h0] at h
      refine ⟨k, by omega, ?_, cnt_zero k h0⟩
      cases hg : listed.getD k true with
      | true => rw [hg] at h; simp at h
      | false => rfl
    · obtain ⟨i, h1, h2, h3⟩ := first_open k h0
      exact ⟨i, by omega, h2, h3⟩

theorem getD_set_self {listed : Array Bool} {i : Nat} : (listed.setIfInBounds i true).getD i true = true := by
  rcases Nat.lt_or_ge i listed.size with h' | h'
  · simp [h']
  · simp [Array.getElem?_eq_none h']

/-- The slots, behind one more operation. -/
theorem inv_slots (hc : HeadOk ops s n als) {Cl : World → Prop} {B : Nat} {ρ : List Nat} {listed : Array Bool} {a : Act} {w : World} {ν ν' : Nat → Nat}
    (inv : Inv ops rec a0 n Cl B ρ listed a w ν) {i : Nat} (hi : i < n) (hun : listed.getD i true = false) (hν : ∀ j, j ≠ i → ν' j = ν j) :
    (a.put (dstAt ops i) (cv rec ν' i)).defers = a0.defers ∧ (a.put (dstAt ops i) (cv rec ν' i)).tmps.size = a0.tmps.size ∧
    (∀ j d, j < n → (listed.setIfInBounds i true).getD j true = true → dstAt ops j = some d → d < a0.tmps.size → (a.put (dstAt ops i) (cv rec ν' i)).tmps[d]? = some (cv rec ν' j)) ∧
    (∀ t, (∀ j, j < n → (listed.setIfInBounds i true).getD j true = true → dstAt ops j ≠ some t) → (a.put (dstAt ops i) (cv rec ν' i)).tmps[t]? = a0.tmps[t]?) := by
  have hne : ∀ j, listed.getD j true = true → j ≠ i := fun j hj e => by rw [e, hun] at hj; cases hj
  have hcv : ∀ j, j ≠ i → cv rec ν' j = cv rec ν j := fun j hj => by unfold cv; rw [hν j hj]
  refine ⟨by rw [put_defers]; exact inv.defers, by rw [put_size]; exact inv.size, fun j d hj hl hd hlt => ?_, fun t ht => ?_⟩
  · by_cases hji : j = i
    · subst hji; rw [hd]; exact put_same _ _ _ (by rw [inv.size]; exact hlt)
    · rw [getD_set_ne true (Ne.symm hji)] at hl
      rw [put_other _ _ _ _ (fun e => hji (hc.uniq j i d hj hi hd e)), hcv j hji]
      exact inv.at_ j d hj hl hd hlt
  · rw [put_other _ _ _ _ (ht i hi getD_set_self)]
    exact inv.other t fun j hj hl => ht j hj (by rw [getD_set_ne true (Ne.symm (hne j hl))]; exact hl)

theorem Inv.step (hc : HeadOk ops s n als) {Cl : World → Prop} {B : Nat} {ρ : List Nat} {listed : Array Bool} {a : Act} {w w' : World} {ν ν' : Nat → Nat}
    (inv : Inv ops rec a0 n Cl B ρ listed a w ν) {i : Nat} (hi : i < n) (hun : listed.getD i true = false) (hν : ∀ j, j ≠ i → ν' j = ν j) (hns : ∀ x z, rec i ≠ .st x z)
    (hnl : ∀ j x z, j < n → listed.getD j true = true → rec j = .st x z → dstAt ops i = some x → False)
    (hb : Below w.heap.size w w') (hcl : Cl w') (hal : ∀ t z, rec i = .al t z → w'.heap[ν' i]? = some (.cells z.toArray t (0, 0)) ∧ ν' i = w.heap.size ∧ B ≤ w.heap.size ∧ w.heap.size ∉ ρ) :
    Inv ops rec a0 n Cl B ρ (listed.setIfInBounds i true) (a.put (dstAt ops i) (cv rec ν' i)) w' ν' := by
  have hcase : ∀ j, (listed.setIfInBounds i true).getD j true = true → j = i ∨ (j ≠ i ∧ listed.getD j true = true) := fun j hj => by
    by_cases hji : j = i
    · exact .inl hji
    · rw [getD_set_ne true (Ne.symm hji)] at hj; exact .inr ⟨hji, hj⟩
  have hset : ∀ j, listed.getD j true = true → (listed.setIfInBounds i true).getD j true = true := fun j hj => by
    by_cases hji : j = i
    · subst hji; exact getD_set_self
    · rw [getD_set_ne true (Ne.symm hji)]; exact hj
  have hblk : ∀ j t z, j < n → listed.getD j true = true → rec j = .al t z → ν j < w.heap.size := fun j t z hj hl hr => by obtain ⟨zz, h1, _⟩ := inv.blk j t z hj hl hr; exact heap_lt h1
  obtain ⟨s1, s2, s3, s4⟩ := inv_slots hc inv hi hun hν
  refine ⟨s1, s2, s3, s4, hcl, fun j t z hj hl hr => ?_, fun j k t z t' z' hj hk hlj hlk hrj hrk he => ?_⟩
  · rcases hcase j hl with rfl | ⟨hji, hl'⟩
    · obtain ⟨h1, h2, h3, h4⟩ := hal t z hr
      refine ⟨z, h1, rfl, by rw [h2]; exact h3, by rw [h2]; exact h4, fun k x z' hk hlk hrk hdk => ?_, fun _ => rfl⟩
      rcases hcase k hlk with rfl | ⟨hki, hlk'⟩
      · exact absurd hrk (hns x z')
      · exact (hnl k x z' hk hlk' hrk hdk).elim
    · obtain ⟨zz, h1, h2, h3, h4, h5, h6⟩ := inv.blk j t z hj hl' hr
      refine ⟨zz, by rw [hν j hji, hb.block _ (hblk j t z hj hl' hr)]; exact h1, h2, by rw [hν j hji]; exact h3, by rw [hν j hji]; exact h4, fun k x z' hk hlk hrk hdk => ?_, fun hno => h6 fun k x z' hk hlk hrk hdk => hno k x z' hk (hset k hlk) hrk hdk⟩
      rcases hcase k hlk with rfl | ⟨hki, hlk'⟩
      · exact absurd hrk (hns x z')
      · exact h5 k x z' hk hlk' hrk hdk
  · rcases hcase j hlj with rfl | ⟨hji, hlj'⟩
    · rcases hcase k hlk with rfl | ⟨hki, hlk'⟩
      · rfl
      · have := hblk k t' z' hk hlk' hrk
        rw [hν k hki, (hal t z hrj).2.1] at he
        omega
    · rcases hcase k hlk with rfl | ⟨hki, hlk'⟩
      · have := hblk j t z hj hlj' hrj
        rw [hν j hji, (hal t' z' hrk).2.1] at he
        omega
      · rw [hν j hji, hν k hki] at he
        exact inv.inj j k t z t' z' hj hk hlj' hlk' hrj hrk he

/-- A new variable is filled. -/
theorem Inv.stepS (hc : HeadOk ops s n als) {Cl : World → Prop} {B : Nat} {ρ : List Nat} {listed : Array Bool} {a : Act} {w : World} {ν : Nat → Nat}
    (inv : Inv ops rec a0 n Cl B ρ listed a w ν) {i : Nat} (hsi : s ≤ i) (hi : i < n) (hun : listed.getD i true = false) {x : Nat} {z : List Value} (hr : rec i = .st x z)
    (hsa : ∀ k y z', k < n → rec k = .st y z' → s ≤ k ∧ stAt ops k = some y)
    {k t : Nat} {z0 : List Value} (hk : k < n) (hlk : listed.getD k true = true) (hrk : rec k = .al t z0) (hdk : dstAt ops k = some x) (hlen : z.length = z0.length)
    (hcl : Cl (upd w (ν k) (.cells z.toArray t (0, 0)))) :
    Inv ops rec a0 n Cl B ρ (listed.setIfInBounds i true) (a.put (dstAt ops i) (cv rec ν i)) (upd w (ν k) (.cells z.toArray t (0, 0))) ν := by
  have hcase : ∀ j, (listed.setIfInBounds i true).getD j true = true → j = i ∨ (j ≠ i ∧ listed.getD j true = true) := fun j hj => by
    by_cases hji : j = i
    · exact .inl hji
    · rw [getD_set_ne true (Ne.symm hji)] at hj; exact .inr ⟨hji, hj⟩
  have hset : ∀ j, listed.getD j true = true → (listed.setIfInBounds i true).getD j true = true := fun j hj => by
    by_cases hji : j = i
    · subst hji; exact getD_set_self
    · rw [getD_set_ne true (Ne.symm hji)]; exact hj
  obtain ⟨s1, s2, s3, s4⟩ := inv_slots hc inv hi hun (ν' := ν) fun _ _ => rfl
  have hki : k ≠ i := fun e => by rw [e, hun] at hlk; cases hlk
  obtain ⟨_, hh, _⟩ := inv.blk k t z0 hk hlk hrk
  have hlt := heap_lt hh
  have hal : ∀ j t' z', rec j = .al t' z' → (listed.setIfInBounds i true).getD j true = true → listed.getD j true = true := fun j t' z' hj hl => by
    rcases hcase j hl with rfl | ⟨_, h⟩
    · rw [hr] at hj; cases hj
    · exact h
  refine ⟨s1, s2, s3, s4, hcl, fun j t' z' hj hl hrj => ?_, fun j j' t' z' t'' z'' hj hj' hl hl' hrj hrj' he => inv.inj j j' t' z' t'' z'' hj hj' (hal _ _ _ hrj hl) (hal _ _ _ hrj' hl') hrj hrj' he⟩
  obtain ⟨zz, h1, h2, h3, h4, h5, h6⟩ := inv.blk j t' z' hj (hal _ _ _ hrj hl) hrj
  by_cases hjk : j = k
  · subst hjk
    rw [hrk] at hrj
    cases hrj
    refine ⟨z, by rw [upd_heap hlt, if_pos rfl], by omega, h3, h4, fun m y z'' hm hlm hrm hdm => ?_, fun hno => (hno i x z hi getD_set_self hr hdk).elim⟩
    rw [hdk] at hdm
    cases hdm
    obtain ⟨_, _, _, _, _, _, hu⟩ := hc.st i x hsi hi (hsa i x z hi hr).2
    have := hu m (hsa m x z'' hm hrm).1 hm (hsa m x z'' hm hrm).2
    subst this
    rw [hr] at hrm
    cases hrm
    rfl
  · have hne : ν k ≠ ν j := fun e => hjk (inv.inj k j t z0 t' z' hk hj hlk (hal _ _ _ hrj hl) hrk hrj e).symm
    refine ⟨zz, by rw [upd_heap hlt, if_neg hne]; exact h1, h2, h3, h4, fun m y z'' hm hlm hrm hdm => ?_, fun hno => h6 fun m y z'' hm hlm hrm hdm => hno m y z'' hm (hset m hlm) hrm hdm⟩
    rcases hcase m hlm with rfl | ⟨hmi, hlm'⟩
    · rw [hr] at hrm
      cases hrm
      exact absurd (hc.uniq j k x hj hk hdm hdk) hjk
    · exact h5 m y z'' hm hlm' hrm hdm

theorem below_alloc (w : World) (o : Obj) : Below w.heap.size w (w.alloc o) := (Below.refl _ _).alloc (Nat.le_refl _) _

theorem head_any (hc : HeadOk ops s n als) (hals : ∀ i d, i < n → als i = false → dstAt ops i = some d → ∃ v, rec i = .q v) (hpre : ∀ i, i < s → ∃ v, rec i = .q v) {Cl : World → Prop} {B : Nat} {ρ : List Nat} {Q : Exit → Act → World → Prop}
    (hCl : ∀ w w', Cl w → Below w.heap.size w w' → Cl w') (hB : ∀ w, Cl w → B ≤ w.heap.size ∧ w.heap.size ∉ ρ)
    (hq : ∀ i o v, s ≤ i → i < n → ops[i]? = some o → rec i = .q v → YQ P ops Cl o v (aLex ops rec a0 i))
    (hq' : ∀ i v, s ≤ i → i < n → rec i = .q v → ∀ t, stAt ops i ≠ some t)
    (ha : ∀ i o t z, s ≤ i → i < n → ops[i]? = some o → rec i = .al t z → o.op = .alloc t ∧ o.guard = none ∧ ∀ w, ∃ zv, (zeroValue t).run P w = .ok zv w ∧ zv.cells = z.toArray)
    (hst : ∀ j o x z, j < n → ops[j]? = some o → rec j = .st x z → s ≤ j ∧ ∃ t y k z0, o.op = .store t (.tmp x) y ∧ o.guard = none ∧ o.dst = none ∧ y ≠ .tmp x ∧ x < a0.tmps.size ∧ k < n ∧ dstAt ops k = some x ∧ rec k = .al t z0 ∧
      z.length = z0.length ∧ (∀ w, (sizeOf t).run P w = .ok z0.length w) ∧ (∀ v ∈ z, v.oneCell' = true) ∧ ((aLex ops rec a0 j).eval y).cells = z.toArray)
    (hCl2 : ∀ w b o, Cl w → B ≤ b → b ∉ ρ → Cl (upd w b o))
    (tail : ∀ a w ν, Inv ops rec a0 n Cl B ρ (headListed n ops.size) a w ν → wpAny P .any ops Q (ops.size - n) (headListed n ops.size) a w) :
    ∀ (c : Nat) (listed : Array Bool) (a : Act) (w : World) (ν : Nat → Nat), Inv ops rec a0 n Cl B ρ listed a w ν → HeadInv .any ops n listed → (∀ i, i < s → listed.getD i true = true) → cnt listed n = c →
      wpAny P .any ops Q (c + (ops.size - n)) listed a w := by
  have hle := hc.le
  intro c
  induction c with
  | zero =>
    intro listed a w ν inv hinv hs hcn
    have hl : listed = headListed n ops.size := by
      apply Array.ext_getElem?
      intro j
      have h0 := cnt_zero n hcn
      by_cases hj : j < ops.size
      · have hjl : j < listed.size := by rw [hinv.size]; exact hj
        have hr : (headListed n ops.size)[j]? = some (decide (j < n)) := by simp [headListed, hj]
        rw [hr, Array.getElem?_eq_getElem hjl]
        congr 1
        by_cases hjn : j < n
        · have := h0 j hjn; simp [hjl] at this; simp [this, hjn]
        · have := hinv.tail j (by omega) hj; simp [hjl] at this; simp [this, hjn]
      · rw [Array.getElem?_eq_none (by rw [hinv.size]; omega), Array.getElem?_eq_none (by simp [headListed]; omega)]
    subst hl
    rw [Nat.zero_add]
    exact tail a w ν inv
  | succ c ih =>
    intro listed a w ν inv hinv hs hcn
    have hex := first_open n (listed := listed) (by omega)
    obtain ⟨i0, hi0, hun0, hmin⟩ := hex
    have hsi0 : s ≤ i0 := by
      rcases Nat.lt_or_ge i0 s with h | h
      · rw [hs i0 h] at hun0; cases hun0
      · exact h
    have htw : ∀ t, n ≤ t → t ∉ Region.ready .any ops listed := fun t ht hr => by
      obtain ⟨_, o, ho, hall⟩ := mem_ready.1 hr
      have htlt : t < ops.size := (Array.getElem?_eq_some_iff.1 ho).1
      have := getD_true_of_false (reach_listed hinv t t (Nat.le_refl _) i0 (hc.wait t i0 ht htlt hsi0 hi0) fun o' ho' e he hb => by
        rw [ho] at ho'
        cases ho'
        exact hall e he hb)
      rw [hun0] at this
      cases this
    rw [show c + 1 + (ops.size - n) = (c + (ops.size - n)) + 1 by omega]
    refine ⟨fun h0 => ?_, fun i hir => ?_⟩
    · have hi0s : i0 < ops.size := by omega
      have : i0 ∈ Region.ready .any ops listed := by
        refine mem_ready.2 ⟨hun0, ops[i0], by simp [hi0s], fun e he hb => ?_⟩
        have hlt := hc.back i0 ops[i0] hsi0 hi0 (by simp [hi0s]) e he hb
        have hl := hmin e.on hlt
        have hel : e.on < listed.size := by rw [hinv.size]; omega
        simp [hel] at hl ⊢
        exact hl
      rw [h0] at this
      cases this
    · have hin : i < n := by
        rcases Nat.lt_or_ge i n with h | h
        · exact h
        · exact absurd hir (htw i h)
      obtain ⟨hun, o, ho, hall⟩ := mem_ready.1 hir
      have hsi : s ≤ i := by
        rcases Nat.lt_or_ge i s with h | h
        · rw [hs i h] at hun; cases hun
        · exact h
      have hs' : ∀ k, k < s → (listed.setIfInBounds i true).getD k true = true := fun k hk => by rw [getD_set_ne true (by omega)]; exact hs k hk
      have hsel := Region.noSelect_spec hc.sel
      have hd : dstAt ops i = o.dst := by simp [dstAt, ho]
      have hcn' : cnt (listed.setIfInBounds i true) n = c := by have := cnt_set hun n hin; omega
      have hinv' := hinv.set hir hin
      have hnl : (∀ x z, rec i ≠ .st x z) → ∀ j x z, j < n → listed.getD j true = true → rec j = .st x z → dstAt ops i = some x → False := fun _ j x z hj hlj hrj hdi => by
        have hj' : j < ops.size := by omega
        obtain ⟨hsj, t, y, k, z0, hop, hg, hdst, _⟩ := hst j ops[j] x z hj (by simp [hj']) hrj
        have hsa : stAt ops j = some x := by simp [stAt, hj', stSlot, hop, hg, hdst]
        obtain ⟨i', _, hi', hd', _, hwf, _⟩ := hc.st j x hsj hj hsa
        have : i' = i := hc.uniq i' i x hi' hin hd' hdi
        subst this
        obtain ⟨oj, hoj, e, he, hb, hon⟩ := Region.waitsFor_spec hwf
        have hjl : j < listed.size := by rw [hinv.size]; exact hj'
        have h1 : listed.getD j false = true := by simp [hjl] at hlj ⊢; exact hlj
        have := getD_true_of_false (hinv.closed j oj hoj h1 e he hb)
        rw [hon, hun] at this
        cases this
      have next : ∀ (w' : World) (ν' : Nat → Nat), (∀ x z, rec i ≠ .st x z) → (∀ j, j ≠ i → ν' j = ν j) → Below w.heap.size w w' → Cl w' →
          (∀ t z, rec i = .al t z → w'.heap[ν' i]? = some (.cells z.toArray t (0, 0)) ∧ ν' i = w.heap.size ∧ B ≤ w.heap.size ∧ w.heap.size ∉ ρ) →
          wpAny P .any ops Q (c + (ops.size - n)) (listed.setIfInBounds i true) (a.put o.dst (cv rec ν' i)) w' := fun w' ν' h0 h1 h2 h3 h4 => by
        have := inv.step hc hin hun h1 h0 (hnl h0) h2 h3 h4
        rw [hd] at this
        exact ih _ _ _ _ this hinv' hs' hcn'
      unfold wpOp
      simp only [ho]
      cases hrec : rec i with
      | q v =>
        have hy := hq i o v hsi hin ho hrec
        have hnst : ∀ x z, rec i ≠ .st x z := fun x z h => by rw [hrec] at h; cases h
        have hlk : looksN ops i = o.looksAt ops := by simp [looksN, ho]
        have hag : ∀ t ∈ o.looksAt ops, a.tmps[t]? = (aLex ops rec a0 i).tmps[t]? := fun t ht => agree hc hals inv hinv hs hpre hsi hin hir t (by rw [hlk]; exact ht) (hq' i v hsi hin hrec t)
        obtain ⟨e1, e2⟩ := evals_same (hsel i o · · ho) hag
        have hcv : cv rec ν i = v := by simp [cv, hrec]
        have hno : ∀ t z, rec i = .al t z → False := fun t z h => by rw [hrec] at h; cases h
        rcases hy with ⟨hw, hrun⟩ | ⟨hw, rfl⟩
        · rw [e2, hw]
          simp only [if_true]
          refine .inl ?_
          unfold Oper.wp
          rw [e1]
          have hr := hrun w inv.cl
          generalize (execOp (aLex ops rec a0 i).eval o).run P w = r at hr
          cases r with
          | halt x w' => exact hr.elim
          | ok nx w' =>
            cases nx <;> simp only [Oper.upon] <;> try exact hr.elim
            case value u =>
              obtain ⟨rfl, rfl⟩ := hr
              have := next w' ν hnst (fun _ _ => rfl) (Below.refl _ _) inv.cl (fun t z h => (hno t z h).elim)
              rwa [hcv] at this
            case enter f args =>
              obtain ⟨rfl, hcall⟩ := hr
              refine hcall.mono fun e w'' ⟨he, hb⟩ => ?_
              subst he
              have := next w'' ν hnst (fun _ _ => rfl) hb (hCl _ _ inv.cl hb) (fun t z h => (hno t z h).elim)
              rwa [hcv] at this
        · rw [e2, hw]
          simp only [Bool.false_eq_true, if_false]
          have := next w ν hnst (fun _ _ => rfl) (Below.refl _ _) inv.cl (fun t z h => (hno t z h).elim)
          rwa [hcv] at this
      | al t z =>
        obtain ⟨hop, hg, hz⟩ := ha i o t z hsi hin ho hrec
        obtain ⟨zv, hz1, hz2⟩ := hz w
        have hw : Region.wanted o (yielded ops a.tmps) = true := by simp [Region.wanted, hg]
        rw [hw]
        simp only [if_true]
        refine .inl ?_
        unfold Oper.wp
        have hrun : (execOp a.eval o).run P w = .ok (.value (.pointer (some ⟨w.heap.size, 0, none⟩))) (w.alloc (.cells z.toArray t)) := by
          simp only [execOp, hop]
          refine run_value ?_
          simp only [Instr.alloc, Sem.run_bind, hz1, Result.andThen_ok, newVar, newRow, run_newObj, Sem.run_pure, hz2, World.alloc]
        rw [hrun]
        simp only [Oper.upon]
        obtain ⟨hB1, hB2⟩ := hB w inv.cl
        have := next (w.alloc (.cells z.toArray t)) (fun j => if j = i then w.heap.size else ν j) (fun x z' h => by rw [hrec] at h; cases h) (fun j hj => by simp [hj]) (below_alloc _ _) (hCl _ _ inv.cl (below_alloc _ _))
          (fun t' z' h => by
            rw [hrec] at h
            cases h
            simp only [if_true]
            exact ⟨(MapKept.heap_alloc w _).1, trivial, hB1, hB2⟩)
        have hcv : cv rec (fun j => if j = i then w.heap.size else ν j) i = .pointer (some ⟨w.heap.size, 0, none⟩) := by simp [cv, hrec]
        rwa [hcv] at this
      | st x z =>
        obtain ⟨_, t, y, k, z0, hop, hg, hdst, hyx, hxs, hk, hdk, hrk, hlen, hsz, hone, hval⟩ := hst i o x z hin ho hrec
        have hw : Region.wanted o (yielded ops a.tmps) = true := by simp [Region.wanted, hg]
        rw [hw]
        simp only [if_true]
        refine .inl ?_
        unfold Oper.wp
        have hsa : stAt ops i = some x := by simp [stAt, ho, stSlot, hop, hg, hdst]
        obtain ⟨i', _, hi', hd', _, hwf, _⟩ := hc.st i x hsi hin hsa
        have hik : i' = k := hc.uniq i' k x hi' hk hd' hdk
        subst hik
        obtain ⟨oi, hoi, e, he, hb, hon⟩ := Region.waitsFor_spec hwf
        rw [ho] at hoi
        cases hoi
        have hlk := getD_true_of_false (hall e he hb)
        rw [hon] at hlk
        have hax : a.eval (.tmp x) = .pointer (some ⟨ν i', 0, none⟩) := by
          have := inv.at_ i' x hk hlk hdk hxs
          simp only [Act.eval, Array.getD_eq_getD_getElem?, this]
          simp [cv, hrk]
        have hay : a.eval y = (aLex ops rec a0 i).eval y := by
          cases y with
          | tmp u =>
            have hux : u ≠ x := fun e => hyx (by rw [e])
            have := agree hc hals inv hinv hs hpre hsi hin hir u (by
              simp only [looksN, ho, Oper.looksAt]
              exact List.mem_append_left _ (List.mem_filterMap.2 ⟨.tmp u, by simp [hop, Op.operands], rfl⟩)) (fun e => by rw [hsa] at e; exact hux (Option.some.inj e).symm)
            simp only [Act.eval, Array.getD_eq_getD_getElem?, this]
          | _ => rfl
        obtain ⟨zz, hh, hzl, hB1, hB2, _, _⟩ := inv.blk i' t z0 hk hlk hrk
        have hrun : (execOp a.eval o).run P w = .ok .skip (upd w (ν i') (.cells z.toArray t (0, 0))) := by
          simp only [execOp, hop, Instr.storeAt, Instr.sureAddr, hax, Sem.run_bind, Sem.run_pure, Result.andThen_ok, storeVar, hsz]
          rw [hay, hval, if_neg (by simp [hlen])]
          have hst := run_storeCells_blk (P := P) (b := ν i') (t := t) (off := 0) z 0 w zz hh (by omega) hone
          rw [hst]
          have hsp : splice zz (0 + 0) z = z := by
            simp only [splice]
            have : List.drop (0 + 0 + z.length) zz = [] := List.drop_eq_nil_of_le (by omega)
            rw [this]; simp
          rw [hsp]
          by_cases hnil : z = []
          · subst hnil
            simp only [if_true, Result.andThen_ok, Sem.run_pure]
            congr 1
            have hz0 : zz = [] := List.length_eq_zero_iff.1 (by rw [hzl, ← hlen]; rfl)
            subst hz0
            unfold upd
            have hlt := heap_lt hh
            have : w.heap.setIfInBounds (ν i') (.cells #[] t (0, 0)) = w.heap := by
              apply Array.ext_getElem?
              intro j
              rw [Array.getElem?_setIfInBounds]
              by_cases hj : ν i' = j
              · subst hj; rw [if_pos rfl, if_pos hlt, hh]
              · rw [if_neg hj]
            rw [this]
          · simp only [hnil, if_false, Result.andThen_ok, Sem.run_pure]
        rw [hrun]
        simp only [Oper.upon]
        have := inv.stepS hc hsi hin hun hrec (fun k y z' hk' hr' => by
          have hks : k < ops.size := by omega
          obtain ⟨hsk, t', y', _, _, hop', hg', hdst', _⟩ := hst k ops[k] y z' hk' (by simp [hks]) hr'
          exact ⟨hsk, by simp [stAt, hks, stSlot, hop', hg', hdst']⟩) hk hlk hrk hdk hlen (hCl2 _ _ _ inv.cl hB1 hB2)
        have hcv : cv rec ν i = undef := by simp [cv, hrec]
        rw [hcv, hd] at this
        exact ih _ _ _ _ this hinv' hs' hcn'

end
end Go.Ev
