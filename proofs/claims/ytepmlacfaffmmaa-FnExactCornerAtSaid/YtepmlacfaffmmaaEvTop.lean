/-
  The evaluator, part 7: drawn regions at the evaluator's own level; code; functions and their contracts.
  Conditions: none.
-/
import Derived.Test.YtepmlacfaffmmaaEvCode
set_option linter.unusedVariables false
set_option linter.unusedSimpArgs false
namespace Go.Ev
open Go.RowKit

/-! ## The head of a drawn region -/

def isAl (o : Oper) : Bool := match o.op, o.guard with
  | .alloc _, none => true
  | _, _ => false

def alAt (ops : Array Oper) (i : Nat) : Bool := match ops[i]? with
  | some o => isAl o
  | none => false

/-- 'HeadOk', reckoned. -/
def headChk (ops : Array Oper) (n : Nat) : Bool :=
  Region.noSelect ops && decide (n ≤ ops.size) && (decide (n = ops.size) || (Region.sinkB .any ops n && Region.chainB .any ops n)) &&
  ((List.range n).all fun i => (List.range n).all fun j =>
    (match dstAt ops i with
     | some d => (decide (i = j) || dstAt ops j != some d) && (!(looksN ops j).contains d || (decide (i < j) && Region.waitsFor .any ops j i && !alAt ops i) || (decide (j < i) && Region.waitsFor .any ops i j) || stAt ops j == some d)
     | none => true)) &&
  ((List.range n).all fun j => match stAt ops j with
    | some x => (List.range n).any (fun i => dstAt ops i == some x && alAt ops i && Region.waitsFor .any ops j i) && (List.range n).all (fun k => stAt ops k != some x || k == j)
    | none => true) &&
  ((List.range n).all fun j => match ops[j]? with
    | some o => o.after.all fun e => !Region.binds .any e || decide (e.on < j)
    | none => true) &&
  Region.seqB .any ops (ops.size - n) n (headListed n ops.size)

theorem headChk_spec {ops : Array Oper} {n : Nat} (h : headChk ops n = true) : HeadOk ops n (alAt ops) := by
  simp only [headChk, Bool.and_eq_true] at h
  obtain ⟨⟨⟨⟨⟨⟨h1, h2⟩, h3⟩, h4⟩, h7⟩, h5⟩, h6⟩ := h
  have h2' : n ≤ ops.size := of_decide_eq_true h2
  have hsc : n < ops.size → Region.sinkB .any ops n = true ∧ Region.chainB .any ops n = true := fun hlt => by
    rcases Bool.or_eq_true _ _ ▸ h3 with h | h
    · have := of_decide_eq_true h; omega
    · simpa using h
  have h4' : ∀ i j d, i < n → j < n → dstAt ops i = some d → ((i = j) ∨ dstAt ops j ≠ some d) ∧ (d ∈ looksN ops j → (i < j ∧ Region.waitsFor .any ops j i = true ∧ alAt ops i = false) ∨ (j < i ∧ Region.waitsFor .any ops i j = true) ∨ stAt ops j = some d) := fun i j d hi hj hd => by
    have := List.all_eq_true.1 (List.all_eq_true.1 h4 i (List.mem_range.2 hi)) j (List.mem_range.2 hj)
    rw [hd] at this
    simp only [Bool.and_eq_true, Bool.or_eq_true, decide_eq_true_eq, bne_iff_ne, ne_eq, Bool.not_eq_true', List.contains_eq_mem, decide_eq_false_iff_not, beq_iff_eq] at this
    refine ⟨this.1, fun hl => ?_⟩
    rcases this.2 with ((h | h) | h) | h
    · exact absurd hl h
    · exact .inl ⟨h.1.1, h.1.2, h.2⟩
    · exact .inr (.inl h)
    · exact .inr (.inr h)
  refine ⟨h1, h2', fun h => (hsc h).1, fun h => (hsc h).2, fun i j d hi hj hdi hdj => ?_, fun i j d hi hj hd hl => (h4' i j d hi hj hd).2 hl, fun j o hj ho e he hb => ?_, h6, fun j x hj hx => ?_⟩
  · rcases (h4' i j d hi hj hdi).1 with h | h
    · exact h
    · exact absurd hdj h
  · have := List.all_eq_true.1 h5 j (List.mem_range.2 hj)
    rw [ho] at this
    have := Array.all_eq_true_iff_forall_mem.1 this e he
    simpa [hb] using this
  · have := List.all_eq_true.1 h7 j (List.mem_range.2 hj)
    rw [hx] at this
    simp only [Bool.and_eq_true, List.any_eq_true, List.all_eq_true, List.mem_range, beq_iff_eq, Bool.or_eq_true, bne_iff_ne, ne_eq] at this
    obtain ⟨⟨i, hi, ⟨hd, ha⟩, hw⟩, hu⟩ := this
    refine ⟨i, hi, hd, ha, hw, fun k hk hkx => ?_⟩
    rcases hu k hk with h | h
    · exact absurd hkx h
    · exact h

/-- One operation of the head that is no new variable. -/
def quietK (P : Program) (T : Tbl) (o : Oper) (tm : List Value) (mem : Mem) (k : Value → Prop) : Prop :=
  match o.op with
  | .call { callee := .value x, args := args, argTypes := _ } => calleeK tm x args fun n vs => ∃ v, CallQ P n vs mem v ∧ k v
  | op => evR T op tm mem k

/-- A new variable of the head: its index, its slot, its type, its cells. -/
abbrev NewVar := Nat × Option Nat × Nat × List Value

def eqD (d : Option Nat) (x : Nat) : Bool := match d with
  | some y => Nat.beq y x
  | none => false
theorem eqD_spec {d : Option Nat} {x : Nat} (h : eqD d x = true) : d = some x := by
  cases d with
  | none => cases h
  | some y => rw [Nat.eq_of_beq_eq_true h]

/-- The new variable of slot x is filled. -/
def stK : List NewVar → Nat → Nat → List Value → (List NewVar → Prop) → Prop
  | [], _, _, _, _ => False
  | (i, d, t', z) :: als, x, t, vs, k => match eqD d x with
    | true => match Nat.beq t' t && Nat.beq z.length vs.length with
      | true => k ((i, d, t', vs) :: als)
      | false => False
    | false => stK als x t vs fun als' => k ((i, d, t', z) :: als')

def setX : List NewVar → Nat → List Value → List NewVar
  | [], _, _ => []
  | (i, d, t', z) :: als, x, vs => match eqD d x with
    | true => (i, d, t', vs) :: als
    | false => (i, d, t', z) :: setX als x vs

theorem stK_spec : ∀ {als : List NewVar} {x t : Nat} {vs : List Value} {k : List NewVar → Prop}, stK als x t vs k → k (setX als x vs) ∧ ∃ i z, (i, some x, t, z) ∈ als ∧ vs.length = z.length
  | [], _, _, _, _, h => h.elim
  | (i, d, t', z) :: als, x, t, vs, k, h => by
    unfold stK at h
    unfold setX
    split at h
    · rename_i hd
      split at h
      · rename_i hc
        simp only [Bool.and_eq_true] at hc
        have e1 := Nat.eq_of_beq_eq_true hc.1
        have e2 := Nat.eq_of_beq_eq_true hc.2
        exact ⟨h, i, z, by rw [eqD_spec hd, e1]; exact List.mem_cons_self, e2.symm⟩
      · exact h.elim
    · rename_i hd
      obtain ⟨h1, j, z', h2, h3⟩ := stK_spec h
      exact ⟨h1, j, z', List.mem_cons_of_mem _ h2, h3⟩

/-- What a store of the head yields. -/
def evS (T : Tbl) (tm : List Value) (als : List NewVar) (t x : Nat) (y : Operand) (k : List NewVar → Prop) : Prop :=
  lookT T t fun ti => opK tm y fun yv => cellsK yv fun vs => match Nat.beq ti.size vs.length && Nat.blt x tm.length with
    | true => stK als x t vs k
    | false => False

def isTmp (y : Operand) (x : Nat) : Bool := match y with
  | .tmp u => Nat.beq u x
  | _ => false

def evH (P : Program) (T : Tbl) (ops : List Oper) : List Oper → Nat → List Value → Mem → List NewVar → (List Value → List NewVar → Prop) → Prop
  | [], _, tm, _, als, K => K tm als
  | o :: rest, i, tm, mem, als, K =>
    match isAl o, o.op with
    | false, .store t (.tmp x) y => match stSlot o, isTmp y x with
      | some _, false => evS T tm als t x y fun als' => forceL als' fun als'' => evH P T ops rest (i + 1) tm mem als'' K
      | _, _ => False
    | true, .alloc t => lookT T t fun ti => putK o.dst undef tm fun tm' => forceL (als ++ [(i, o.dst, t, ti.zero)]) fun als' => evH P T ops rest (i + 1) tm' mem als' K
    | _, _ => guardK ops o tm
      (quietK P T o tm mem fun v => putK o.dst v tm fun tm' => evH P T ops rest (i + 1) tm' mem als K)
      (putK o.dst undef tm fun tm' => evH P T ops rest (i + 1) tm' mem als K)

/-- The new variables take their places. -/
def finK : List NewVar → List Value → Mem → (List Value → Mem → Prop) → Prop
  | [], tm, mem, K => K tm mem
  | (_, d, t, z) :: als, tm, mem, K => numK mem.length fun m => putK d (.pointer (some ⟨m, 0, none⟩)) tm fun tm' => forceL (mem ++ [(z, some t)]) fun mem' => finK als tm' mem' K

/-- The region, its first n operations being the head. -/
def drawAt (P : Program) (T : Tbl) (n : Nat) (ops : List Oper) (tm : List Value) (mem : Mem) (K : List Value → Mem → Prop) : Prop :=
  evH P T ops (ops.take n) 0 tm mem [] fun tm' als => finK als tm' mem fun tm'' mem' => evOps P T ops (ops.drop n) tm'' mem' K

structure DrawK (P : Program) (T : Tbl) (ops : List Oper) (tm : List Value) (mem : Mem) (K : List Value → Mem → Prop) : Prop where
  ex : ∃ n, headChk ops.toArray n = true ∧ drawAt P T n ops tm mem K

/-- How many operations the head has, by their kinds. -/
def headN : List Oper → Nat
  | [] => 0
  | o :: l => match o.op with
    | .store .. | .box .. | .buildSlice .. | .makeMap .. | .insert .. | .mapUpdate .. | .makeSlice .. => 0
    | .alloc _ => match o.guard with
      | none => headN l + 1
      | some _ => 0
    | .call { callee := .builtin b, .. } => match b with
      | .append => 0
      | _ => headN l + 1
    | _ => headN l + 1

/-- As headN, but for the assignments. -/
def headA : List Oper → Nat
  | [] => 0
  | o :: l => match o.op with
    | .assign _ => 0
    | .store .. | .box .. | .buildSlice .. | .makeMap .. | .insert .. | .mapUpdate .. | .makeSlice .. => 0
    | .alloc _ => match o.guard with
      | none => headA l + 1
      | some _ => 0
    | .call { callee := .builtin b, .. } => match b with
      | .append => 0
      | _ => headA l + 1
    | _ => headA l + 1

/-- As headN, but with the stores that fill new variables. -/
def headS : List Oper → Nat
  | [] => 0
  | o :: l => match o.op with
    | .box .. | .buildSlice .. | .makeMap .. | .insert .. | .mapUpdate .. | .makeSlice .. => 0
    | .store _ (.tmp _) _ => headS l + 1
    | .store .. => 0
    | .alloc _ => match o.guard with
      | none => headS l + 1
      | some _ => 0
    | .call { callee := .builtin b, .. } => match b with
      | .append => 0
      | _ => headS l + 1
    | _ => headS l + 1

theorem draw_at {P : Program} {T : Tbl} {ops : List Oper} {tm : List Value} {mem : Mem} {K : List Value → Mem → Prop} (n : Nat) (h : headChk ops.toArray n = true) (hd : drawAt P T n ops tm mem K) : DrawK P T ops tm mem K := ⟨n, h, hd⟩
theorem draw_auto {P : Program} {T : Tbl} {ops : List Oper} {tm : List Value} {mem : Mem} {K : List Value → Mem → Prop} (h : headChk ops.toArray (headN ops) = true) (hd : drawAt P T (headN ops) ops tm mem K) : DrawK P T ops tm mem K := ⟨_, h, hd⟩

theorem draw_st {P : Program} {T : Tbl} {ops : List Oper} {tm : List Value} {mem : Mem} {K : List Value → Mem → Prop} (h : headChk ops.toArray (headS ops) = true) (hd : drawAt P T (headS ops) ops tm mem K) : DrawK P T ops tm mem K := ⟨_, h, hd⟩

theorem draw_asg {P : Program} {T : Tbl} {ops : List Oper} {tm : List Value} {mem : Mem} {K : List Value → Mem → Prop} (h : headChk ops.toArray (headA ops) = true) (hd : drawAt P T (headA ops) ops tm mem K) : DrawK P T ops tm mem K := ⟨_, h, hd⟩

section
variable {P : Program} {T : Tbl}

theorem quietK_sound (hT : T.Ok P) (o : Oper) {tm : List Value} {mem : Mem} {k : Value → Prop} (h : quietK P T o tm mem k) :
    ∃ v, k v ∧ ∀ w0 ρ a w, TmAt ρ tm a → MemAt w0 ρ mem w → quietRun P (MemAt w0 ρ mem) o a (conc ρ v) ∧ ok2 ρ.length v := by
  unfold quietK at h
  split at h
  · rename_i x args ts hop
    obtain ⟨n, vs, ⟨v, hq, hk⟩, hs⟩ := calleeK_sound (P := P) h
    refine ⟨v, hk, fun w0 ρ a w1 ha hm1 => ⟨fun w hm => ?_, by rw [hm1.len]; exact hq.ok⟩⟩
    obtain ⟨hok, hrun⟩ := hs ρ a ha
    rw [hrun o ts hop hq.enters w]
    exact ⟨rfl, hq.run w0 ρ w hm hok⟩
  · obtain ⟨v, hk, hs⟩ := evR_sound hT o h
    refine ⟨v, hk, fun w0 ρ a w1 ha hm1 => ⟨fun w hm => ?_, (hs w0 ρ w1 a ha hm1).2⟩⟩
    rw [(hs w0 ρ w a ha hm).1]
    exact ⟨rfl, rfl⟩

def concR (ρ : List Nat) : HR → HR
  | .q v => .q (conc ρ v)
  | .al t z => .al t z
  | .st x z => .st x (z.map (conc0 ρ))

/-- The new variables, behind n operations from the i-th on. -/
def accH (ops : List Oper) (rf : Nat → HR) : List NewVar → Nat → Nat → List NewVar
  | als, _, 0 => als
  | als, i, n + 1 => match rf i with
    | .q _ => accH ops rf als (i + 1) n
    | .al t z => accH ops rf (als ++ [(i, dstAt ops.toArray i, t, z)]) (i + 1) n
    | .st x z => accH ops rf (setX als x z) (i + 1) n

theorem accH_congr {ops : List Oper} {rf rf' : Nat → HR} : ∀ (n i : Nat) (als : List NewVar), (∀ j, i ≤ j → j < i + n → rf j = rf' j) → accH ops rf als i n = accH ops rf' als i n
  | 0, _, _, _ => rfl
  | n + 1, i, als, h => by
    unfold accH
    rw [h i (by omega) (by omega)]
    cases rf' i <;> exact accH_congr n (i + 1) _ fun j h1 h2 => h j (by omega) (by omega)

theorem accH_add {ops : List Oper} {rf : Nat → HR} : ∀ (m n i : Nat) (als : List NewVar), accH ops rf als i (m + n) = accH ops rf (accH ops rf als i m) (i + m) n
  | 0, n, i, als => by simp [accH]
  | m + 1, n, i, als => by
    rw [show m + 1 + n = (m + n) + 1 by omega, show i + (m + 1) = i + 1 + m by omega]
    rw [accH, accH]
    cases rf i <;> exact accH_add m n (i + 1) _

theorem setX_mem {x : Nat} {vs : List Value} : ∀ {als : List NewVar} {e : NewVar}, e ∈ setX als x vs → e ∈ als ∨ (e.2.2.2 = vs ∧ e.2.1 = some x ∧ ∃ z, (e.1, e.2.1, e.2.2.1, z) ∈ als)
  | [], e, h => by cases h
  | (i, d, t, z) :: als, e, h => by
    unfold setX at h
    split at h
    · rename_i hd
      rcases List.mem_cons.1 h with rfl | h
      · exact .inr ⟨rfl, eqD_spec hd, z, List.mem_cons_self⟩
      · exact .inl (List.mem_cons_of_mem _ h)
    · rcases List.mem_cons.1 h with rfl | h
      · exact .inl List.mem_cons_self
      · rcases setX_mem h with h | ⟨h1, h2, z', h3⟩
        · exact .inl (List.mem_cons_of_mem _ h)
        · exact .inr ⟨h1, h2, z', List.mem_cons_of_mem _ h3⟩

theorem setX_map {x : Nat} {vs : List Value} : ∀ (als : List NewVar), (setX als x vs).map (fun e => (e.1, e.2.1, e.2.2.1)) = als.map (fun e => (e.1, e.2.1, e.2.2.1))
  | [] => rfl
  | (i, d, t, z) :: als => by
    unfold setX
    split
    · rfl
    · simp [setX_map als]

/-- What is known of the new variables behind n operations. -/
structure AccOk (ops : List Oper) (rf : Nat → HR) (n : Nat) (als : List NewVar) : Prop where
  mem : ∀ e ∈ als, e.1 < n ∧ e.2.1 = dstAt ops.toArray e.1 ∧ ∃ z0, rf e.1 = .al e.2.2.1 z0
  fin : ∀ e ∈ als, ∀ z0, rf e.1 = .al e.2.2.1 z0 → (∃ j x, j < n ∧ rf j = .st x e.2.2.2 ∧ e.2.1 = some x) ∨ ((∀ j x z', j < n → rf j = .st x z' → e.2.1 = some x → False) ∧ e.2.2.2 = z0)
  has : ∀ j t z, j < n → rf j = .al t z → ∃ z', (j, dstAt ops.toArray j, t, z') ∈ als
  sorted : als.Pairwise fun x y => x.1 < y.1

theorem accOk {ops : List Oper} {rf : Nat → HR} {m : Nat} (hu : ∀ i j d, i < m → j < m → dstAt ops.toArray i = some d → dstAt ops.toArray j = some d → i = j)
    (hst : ∀ j x z, j < m → rf j = .st x z → ∃ i t z0, i < j ∧ dstAt ops.toArray i = some x ∧ rf i = .al t z0) (hus : ∀ j k x z z', j < m → k < m → rf j = .st x z → rf k = .st x z' → j = k) :
    ∀ n, n ≤ m → AccOk ops rf n (accH ops rf [] 0 n)
  | 0, _ => ⟨fun e he => (by cases he), fun e he => (by cases he), fun j t z hj => by omega, List.Pairwise.nil⟩
  | n + 1, hm => by
    have ih := accOk hu hst hus n (by omega)
    rw [accH_add n 1 0 []]
    simp only [Nat.zero_add]
    generalize accH ops rf [] 0 n = als at ih
    unfold accH
    cases hr : rf n with
    | q v =>
      simp only [accH]
      refine ⟨fun e he => ?_, fun e he z0 h0 => ?_, fun j t z hj h => ?_, ih.sorted⟩
      · obtain ⟨h1, h2, h3⟩ := ih.mem e he
        exact ⟨by omega, h2, h3⟩
      · rcases ih.fin e he z0 h0 with ⟨j, x, h1, h2, h3⟩ | ⟨h1, h2⟩
        · exact .inl ⟨j, x, by omega, h2, h3⟩
        · refine .inr ⟨fun j x z' hj hs hx => ?_, h2⟩
          by_cases hjn : j = n
          · subst hjn; rw [hr] at hs; cases hs
          · exact h1 j x z' (by omega) hs hx
      · by_cases hjn : j = n
        · subst hjn; rw [hr] at h; cases h
        · exact ih.has j t z (by omega) h
    | al t z =>
      simp only [accH]
      have hno : ∀ j x z', j < n + 1 → rf j = .st x z' → dstAt ops.toArray n = some x → False := fun j x z' hj hs hx => by
        obtain ⟨i, t', z0, hi, hd, hri⟩ := hst j x z' (by omega) hs
        have : i = n := hu i n x (by omega) (by omega) hd hx
        omega
      refine ⟨fun e he => ?_, fun e he z0 h0 => ?_, fun j t' z' hj h => ?_, ?_⟩
      · rcases List.mem_append.1 he with he | he
        · obtain ⟨h1, h2, h3⟩ := ih.mem e he
          exact ⟨by omega, h2, h3⟩
        · rw [List.mem_singleton] at he
          subst he
          exact ⟨by simp, rfl, z, hr⟩
      · rcases List.mem_append.1 he with he | he
        · rcases ih.fin e he z0 h0 with ⟨j, x, h1, h2, h3⟩ | ⟨h1, h2⟩
          · exact .inl ⟨j, x, by omega, h2, h3⟩
          · refine .inr ⟨fun j x z' hj hs hx => ?_, h2⟩
            by_cases hjn : j = n
            · subst hjn; rw [hr] at hs; cases hs
            · exact h1 j x z' (by omega) hs hx
        · rw [List.mem_singleton] at he
          subst he
          simp only at h0 ⊢
          rw [hr] at h0
          cases h0
          exact .inr ⟨hno, rfl⟩
      · by_cases hjn : j = n
        · subst hjn
          rw [hr] at h
          cases h
          exact ⟨z, List.mem_append_right _ (by simp)⟩
        · obtain ⟨z'', h'⟩ := ih.has j t' z' (by omega) h
          exact ⟨z'', List.mem_append_left _ h'⟩
      · refine List.pairwise_append.2 ⟨ih.sorted, List.pairwise_singleton _ _, fun e he e' he' => ?_⟩
        rw [List.mem_singleton] at he'
        subst he'
        exact (ih.mem e he).1
    | st x z =>
      simp only [accH]
      have hmap := setX_map (x := x) (vs := z) als
      refine ⟨fun e he => ?_, fun e he z0 h0 => ?_, fun j t' z' hj h => ?_, ?_⟩
      · rcases setX_mem he with he | ⟨_, _, z'', he⟩
        · obtain ⟨h1, h2, h3⟩ := ih.mem e he
          exact ⟨by omega, h2, h3⟩
        · obtain ⟨h1, h2, h3⟩ := ih.mem _ he
          exact ⟨by simp only at h1; omega, h2, h3⟩
      · -- an entry of slot x is the filled one
        by_cases hx : e.2.1 = some x
        · refine .inl ⟨n, x, by omega, ?_, hx⟩
          rw [hr]
          congr 1
          rcases setX_mem he with he' | ⟨h1, _, _⟩
          · -- it lies in the list unfilled, though its slot is x: then its twin is ahead of it, against the order
            exact (setX_fill he hx (fun e1 h1 e2 h2 g1 g2 => by
              obtain ⟨a1, a2, _⟩ := ih.mem e1 h1
              obtain ⟨b1, b2, _⟩ := ih.mem e2 h2
              exact hu e1.1 e2.1 x (by omega) (by omega) (by rw [← a2]; exact g1) (by rw [← b2]; exact g2)) ih.sorted).symm
          · exact h1.symm
        · have he' : e ∈ als := by
            rcases setX_mem he with he' | ⟨_, h2, _⟩
            · exact he'
            · exact absurd h2 hx
          rcases ih.fin e he' z0 h0 with ⟨j, y, h1, h2, h3⟩ | ⟨h1, h2⟩
          · exact .inl ⟨j, y, by omega, h2, h3⟩
          · refine .inr ⟨fun j y z' hj hs hy => ?_, h2⟩
            by_cases hjn : j = n
            · subst hjn
              rw [hr] at hs
              cases hs
              exact hx hy
            · exact h1 j y z' (by omega) hs hy
      · by_cases hjn : j = n
        · subst hjn; rw [hr] at h; cases h
        · obtain ⟨z'', h'⟩ := ih.has j t' z' (by omega) h
          have : (j, dstAt ops.toArray j, t') ∈ (setX als x z).map (fun e => (e.1, e.2.1, e.2.2.1)) := by
            rw [hmap]; exact List.mem_map.2 ⟨_, h', rfl⟩
          obtain ⟨e, he, heq⟩ := List.mem_map.1 this
          obtain ⟨e1, e2, e3, e4⟩ := e
          simp only [Prod.mk.injEq] at heq
          obtain ⟨rfl, rfl, rfl⟩ := heq
          exact ⟨e4, he⟩
      · have h1 : ((als.map (fun e => (e.1, e.2.1, e.2.2.1))).map Prod.fst).Pairwise (· < ·) := by
          rw [List.map_map]; exact List.pairwise_map.2 ih.sorted
        rw [← hmap, List.map_map] at h1
        exact List.pairwise_map.1 h1
where
  setX_fill {x : Nat} {vs : List Value} : ∀ {als : List NewVar} {e : NewVar}, e ∈ setX als x vs → e.2.1 = some x →
      (∀ e1 ∈ als, ∀ e2 ∈ als, e1.2.1 = some x → e2.2.1 = some x → e1.1 = e2.1) → als.Pairwise (fun x y => x.1 < y.1) → e.2.2.2 = vs
    | [], e, h, _, _, _ => by cases h
    | (i, d, t, z) :: als, e, h, hx, hu, hp => by
      unfold setX at h
      split at h
      · rename_i hd
        rcases List.mem_cons.1 h with rfl | h
        · rfl
        · have := hu (i, d, t, z) List.mem_cons_self e (List.mem_cons_of_mem _ h) (eqD_spec hd) hx
          have := List.rel_of_pairwise_cons hp h
          simp only at *
          omega
      · rename_i hd
        rcases List.mem_cons.1 h with rfl | h
        · exfalso
          simp only at hx
          rw [hx] at hd
          simp [eqD] at hd
        · exact setX_fill h hx (fun e1 h1 e2 h2 => hu e1 (List.mem_cons_of_mem _ h1) e2 (List.mem_cons_of_mem _ h2)) (List.pairwise_cons.1 hp).2

def zeroIs (P : Program) (t : Nat) (z : List Value) : Prop := (∀ w, ∃ zv, (zeroValue t).run P w = .ok zv w ∧ zv.cells = z.toArray) ∧ allL plain0 z = true

theorem isTmp_ne {y : Operand} {x : Nat} (h : isTmp y x = false) : y ≠ .tmp x := fun e => by
  subst e
  simp [isTmp] at h

/-- What is known of one operation of the head. -/
def Fact (P : Program) (ops : List Oper) (w0 : Base) (ρ : List Nat) (mem : Mem) (rf : Nat → HR) (als : List NewVar) (i : Nat) (lex : Nat → Act) (j : Nat) (o : Oper) : Prop := match rf j with
  | .q v => stSlot o = none ∧ YQ P ops.toArray (MemAt w0 ρ mem) o (conc ρ v) (lex j)
  | .al t z => o.op = .alloc t ∧ o.guard = none ∧ zeroIs P t z
  | .st x z => ∃ t y k z0, o.op = .store t (.tmp x) y ∧ o.guard = none ∧ o.dst = none ∧ y ≠ .tmp x ∧ x < (lex j).tmps.size ∧ (k, some x, t, z0) ∈ accH ops rf als i (j - i) ∧ z.length = z0.length ∧
      (∀ w, (sizeOf t).run P w = .ok z.length w) ∧ (∀ v ∈ z, ok0 ρ.length v) ∧ ((lex j).eval y).cells = (z.map (conc0 ρ)).toArray

theorem stSlot_spec {o : Oper} {x : Nat} (h : stSlot o = some x) : ∃ t y, o.op = .store t (.tmp x) y ∧ o.guard = none ∧ o.dst = none := by
  unfold stSlot at h
  split at h
  · rename_i t x' y h1 h2 h3
    cases h
    exact ⟨t, y, h1, h2, h3⟩
  · cases h

theorem evH_sound (hT : T.Ok P) {ops : List Oper} {mem : Mem} : ∀ (l : List Oper) (i : Nat) {tm : List Value} {als : List NewVar} {K : List Value → List NewVar → Prop}, evH P T ops l i tm mem als K →
    (∀ j, j < l.length → l[j]? = ops[i + j]?) → ∃ (rf : Nat → HR) (tmF : List Value), K tmF (accH ops rf als i l.length) ∧
      (∀ j d, i ≤ j → j < i + l.length → alAt ops.toArray j = false → dstAt ops.toArray j = some d → ∃ v, rf j = .q v) ∧
      ∀ w0 ρ w a0 (rec : Nat → HR), MemAt w0 ρ mem w → (∀ j, i ≤ j → j < i + l.length → rec j = concR ρ (rf j)) → TmAt ρ tm (aLex ops.toArray rec a0 i) →
        TmAt ρ tmF (aLex ops.toArray rec a0 (i + l.length)) ∧
        ∀ j o, i ≤ j → j < i + l.length → ops[j]? = some o → Fact P ops w0 ρ mem rf als i (aLex ops.toArray rec a0) j o
  | [], i, tm, als, K, h, _ => ⟨fun _ => .q undef, tm, by unfold evH at h; simpa [accH] using h, fun j d h1 h2 => by simp at h2; omega, fun w0 ρ w a0 rec hm _ ha => ⟨ha, fun j o h1 h2 => by simp at h2; omega⟩⟩
  | o :: rest, i, tm, als, K, h, hl => by
    have hoi : ops[i]? = some o := by have := hl 0 (by simp); simpa using this.symm
    have hl' : ∀ j, j < rest.length → rest[j]? = ops[i + 1 + j]? := fun j hj => by
      have := hl (j + 1) (by simp; omega)
      rw [show i + 1 + j = i + (j + 1) by omega]
      simpa using this
    have hd : dstAt ops.toArray i = o.dst := by simp [dstAt, hoi]
    have hal : alAt ops.toArray i = isAl o := by simp [alAt, hoi]
    -- one record put ahead of the rest's
    have combine : ∀ (r : HR) (tm' : List Value) (als' : List NewVar), evH P T ops rest (i + 1) tm' mem als' K → als' = accH ops (fun _ => r) als i 1 →
        (isAl o = false → (∃ d, o.dst = some d) → ∃ v, r = .q v) →
        (∀ w0 ρ w a, MemAt w0 ρ mem w → TmAt ρ tm a → TmAt ρ tm' (a.put o.dst (concR ρ r).val) ∧ Fact P ops w0 ρ mem (fun _ => r) als i (fun _ => a) i o) →
        ∃ (rf : Nat → HR) (tmF : List Value), K tmF (accH ops rf als i (rest.length + 1)) ∧
          (∀ j d, i ≤ j → j < i + (rest.length + 1) → alAt ops.toArray j = false → dstAt ops.toArray j = some d → ∃ v, rf j = .q v) ∧
          ∀ w0 ρ w a0 (rec : Nat → HR), MemAt w0 ρ mem w → (∀ j, i ≤ j → j < i + (rest.length + 1) → rec j = concR ρ (rf j)) → TmAt ρ tm (aLex ops.toArray rec a0 i) →
            TmAt ρ tmF (aLex ops.toArray rec a0 (i + (rest.length + 1))) ∧
            ∀ j o, i ≤ j → j < i + (rest.length + 1) → ops[j]? = some o → Fact P ops w0 ρ mem rf als i (aLex ops.toArray rec a0) j o := by
      intro r tm' als' h1 h2 h3 h4
      obtain ⟨rf', tmF, hK, hA, hF⟩ := evH_sound hT rest (i + 1) h1 hl'
      have hrf : ∀ j, i + 1 ≤ j → (fun j => if j = i then r else rf' j) j = rf' j := fun j hj => by simp; intro e; omega
      have hacc : ∀ m, accH ops (fun j => if j = i then r else rf' j) als i (m + 1) = accH ops rf' als' (i + 1) m := fun m => by
        rw [show m + 1 = 1 + m by omega, accH_add 1 m i als, accH_congr (ops := ops) (rf := fun j => if j = i then r else rf' j) (rf' := fun _ => r) 1 i als (fun j h5 h6 => by
          have : j = i := by omega
          simp [this]), ← h2]
        exact accH_congr m (i + 1) als' fun j h5 _ => hrf j h5
      refine ⟨fun j => if j = i then r else rf' j, tmF, ?_, fun j d h5 h6 h7 h8 => ?_, fun w0 ρ w a0 rec hm hrec ha => ?_⟩
      · rw [hacc]; exact hK
      · by_cases hji : j = i
        · subst hji
          obtain ⟨v, hv⟩ := h3 (by rw [← hal]; exact h7) ⟨d, by rw [← hd]; exact h8⟩
          exact ⟨v, by simp [hv]⟩
        · obtain ⟨v, hv⟩ := hA j d (by omega) (by omega) h7 h8
          exact ⟨v, by simp [hji, hv]⟩
      · obtain ⟨h5, h6⟩ := h4 w0 ρ w _ hm ha
        have hri : rec i = concR ρ r := by have := hrec i (Nat.le_refl _) (by omega); simpa using this
        have ha' : TmAt ρ tm' (aLex ops.toArray rec a0 (i + 1)) := by rw [aLex, hd, hri]; exact h5
        obtain ⟨h7, h8⟩ := hF w0 ρ w a0 rec hm (fun j h9 h10 => by rw [hrec j (by omega) (by omega), hrf j h9]) ha'
        rw [show i + (rest.length + 1) = i + 1 + rest.length by omega]
        refine ⟨h7, fun j o' h9 h10 ho' => ?_⟩
        by_cases hji : j = i
        · subst hji
          rw [hoi] at ho'
          cases ho'
          unfold Fact at h6 ⊢
          simp only [if_true]
          simp only [Nat.sub_self, accH] at h6 ⊢
          exact h6
        · have := h8 j o' (by omega) h10 ho'
          unfold Fact at this ⊢
          rw [hrf j (by omega)]
          have hji2 : j - i = (j - (i + 1)) + 1 := by omega
          rw [hji2, hacc]
          exact this
    unfold evH at h
    split at h
    · rename_i t x y hisal hop
      split at h
      · rename_i x' hss hty
        obtain ⟨t', y', hop', hg, hdst⟩ := stSlot_spec hss
        unfold evS at h
        obtain ⟨ti, hti, rfl, h'⟩ := lookT_spec h
        clear h
        obtain ⟨yv, h1, hy⟩ := opK_sound h'
        clear h'
        obtain ⟨h2, hc1, hc2⟩ := cellsK_sound h1
        clear h1
        split at h2
        · rename_i hsz
          obtain ⟨h3, k, z0, hk, hlen⟩ := stK_spec h2
          rw [forceL_eq] at h3
          have hTi := hT ti hti
          simp only [Bool.and_eq_true] at hsz
          have e1 := Nat.eq_of_beq_eq_true hsz.1
          have e2 : x < tm.length := Nat.le_of_ble_eq_true hsz.2
          have := combine (.st x yv.cells.toList) _ _ h3 (by simp [accH]) (fun _ hex => by obtain ⟨d, hd'⟩ := hex; rw [hdst] at hd'; cases hd') (fun w0 ρ w a hm ha =>
            ⟨by rw [hdst]; exact ha, ti.t, y, k, z0, hop, hg, hdst, isTmp_ne hty, by rw [ha.tmps]; simpa using e2, by simpa [accH] using hk, hlen, fun w => by rw [← e1]; exact hTi.run_size w, hc1 _ (hy ρ a ha).2, by
              rw [(hy ρ a ha).1]; exact hc2 ρ⟩)
          simpa using this
        · exact h2.elim
      · exact h.elim
    · rename_i t hisal hop
      obtain ⟨ti, hti, rfl, h'⟩ := lookT_spec h
      rw [putK_eq, forceL_eq] at h'
      have hTi := hT ti hti
      have hg : o.guard = none := by
        unfold isAl at hisal
        split at hisal
        · assumption
        · cases hisal
      have := combine (.al ti.t ti.zero) _ _ h' (by simp [accH, hd]) (fun hf => by rw [hisal] at hf; cases hf) (fun w0 ρ w a hm ha =>
        ⟨ha.put o.dst (v := undef) (fun v hv => by cases hv), hop, hg, fun w => by
          obtain ⟨z, hz1, hz2⟩ := hTi.run_zero w
          exact ⟨z, hz1, by rw [← hz2]⟩, hTi.zplain⟩)
      simpa using this
    · rename_i hnst hnot
      have hnone : stSlot o = none := by
        cases hss : stSlot o with
        | none => rfl
        | some x =>
          exfalso
          obtain ⟨t, y, hop, hg, hdst⟩ := stSlot_spec hss
          exact hnst t x y (by simp [isAl, hop]) hop
      rcases guardK_spec h with ⟨h', hw⟩ | ⟨h', hw⟩
      · obtain ⟨v, hk, hs⟩ := quietK_sound hT o h'
        rw [putK_eq] at hk
        have := combine (.q v) _ _ hk (by simp [accH]) (fun _ _ => ⟨v, rfl⟩) (fun w0 ρ w a hm ha => by
          obtain ⟨h1, h2⟩ := hs w0 ρ a w ha hm
          exact ⟨ha.put o.dst h2, hnone, .inl ⟨hw ρ a ha, h1⟩⟩)
        simpa using this
      · rw [putK_eq] at h'
        have := combine (.q undef) _ _ h' (by simp [accH]) (fun _ _ => ⟨_, rfl⟩) (fun w0 ρ w a hm ha =>
          ⟨ha.put o.dst (v := undef) (fun v hv => by cases hv), hnone, .inr ⟨hw ρ a ha, rfl⟩⟩)
        simpa using this

def foldPut (ν : Nat → Nat) : List NewVar → Act → Act
  | [], a => a
  | x :: vs, a => foldPut ν vs (a.put x.2.1 (.pointer (some ⟨ν x.1, 0, none⟩)))

theorem foldPut_size {ν : Nat → Nat} : ∀ (vs : List NewVar) (a : Act), (foldPut ν vs a).tmps.size = a.tmps.size
  | [], _ => rfl
  | x :: vs, a => by rw [foldPut, foldPut_size vs, put_size]
theorem foldPut_defers {ν : Nat → Nat} : ∀ (vs : List NewVar) (a : Act), (foldPut ν vs a).defers = a.defers
  | [], _ => rfl
  | x :: vs, a => by rw [foldPut, foldPut_defers vs, put_defers]
theorem foldPut_other {ν : Nat → Nat} {t : Nat} : ∀ (vs : List NewVar) (a : Act), (∀ x ∈ vs, x.2.1 ≠ some t) → (foldPut ν vs a).tmps[t]? = a.tmps[t]?
  | [], _, _ => rfl
  | x :: vs, a, h => by rw [foldPut, foldPut_other vs _ fun y hy => h y (by simp [hy]), put_other _ _ _ _ (h x (by simp))]
theorem foldPut_at {ν : Nat → Nat} {t : Nat} : ∀ (vs : List NewVar) (a : Act), vs.Pairwise (fun x y => x.1 ≠ y.1) → (∀ x ∈ vs, ∀ y ∈ vs, x.2.1 = some t → y.2.1 = some t → x.1 = y.1) → t < a.tmps.size →
    ∀ x ∈ vs, x.2.1 = some t → (foldPut ν vs a).tmps[t]? = some (.pointer (some ⟨ν x.1, 0, none⟩))
  | [], _, _, _, _, x, hx, _ => by cases hx
  | y :: vs, a, hp, hu, ht, x, hx, hxt => by
    rw [foldPut]
    rcases List.mem_cons.1 hx with rfl | hx'
    · rw [foldPut_other vs _ fun z hz hzt => (List.rel_of_pairwise_cons hp hz) (hu x (by simp) z (by simp [hz]) hxt hzt), hxt]
      exact put_same _ _ _ ht
    · exact foldPut_at vs _ (List.pairwise_cons.1 hp).2 (fun x hx y hy => hu x (by simp [hx]) y (by simp [hy])) (by rw [put_size]; exact ht) x hx' hxt

/-- A block that lies there already takes its place in the local memory. -/
theorem MemAt.adopt {w0 : Base} {w : World} {ρ : List Nat} {mem : Mem} (h : MemAt w0 ρ mem w) {b t : Nat} {z : List Value} (hb : w.heap[b]? = some (.cells (z.map (conc0 ρ)).toArray t (0, 0))) (hw : w0.w.heap.size ≤ b) (hn : b ∉ ρ)
    (hz : ∀ v ∈ z, ok0 ρ.length v) : MemAt w0 (ρ ++ [b]) (mem ++ [(z, some t)]) w := by
  have hgk : ∀ k, k < ρ.length → (ρ ++ [b]).getD k 0 = ρ.getD k 0 := fun k hk => by simp [List.getD, List.getElem?_append_left, hk]
  have hgn : (ρ ++ [b]).getD ρ.length 0 = b := getD_new ρ b
  have hmem : ∀ k x, (mem ++ [(z, some t)])[k]? = some x → (k < ρ.length ∧ mem[k]? = some x) ∨ (k = ρ.length ∧ x = (z, some t)) := fun k x hk => by
    by_cases hkl : k < mem.length
    · rw [List.getElem?_append_left hkl] at hk; exact .inl ⟨by rw [h.len]; exact hkl, hk⟩
    · have := getElem?_len hk
      simp at this
      have hke : k = mem.length := by omega
      subst hke
      simp at hk
      exact .inr ⟨h.len.symm, hk.symm⟩
  refine ⟨h.os, h.tape, h.output, h.size, by simp [h.len], fun c hc => ?_, fun i j cs t' hi hj he => ?_, fun c hc hk => h.old c hc hk, fun k cs t' hk => ?_, fun k cs t' hk => ?_, fun k cs hk => ?_⟩
  · rcases List.mem_append.1 hc with hc | hc
    · exact h.lt c hc
    · simp at hc; subst hc; exact heap_lt hb
  · have hj' : j < ρ.length + 1 := by simpa using hj
    rcases hmem i _ hi with ⟨h1, h2⟩ | ⟨rfl, _⟩
    · rw [hgk i h1] at he
      by_cases hjl : j < ρ.length
      · rw [hgk j hjl] at he; exact h.inj i j cs t' h2 hjl he
      · have : j = ρ.length := by omega
        subst this
        rw [hgn] at he
        exact absurd (he ▸ getD_mem h1) hn
    · rw [hgn] at he
      by_cases hjl : j < ρ.length
      · rw [hgk j hjl] at he; exact absurd (he ▸ getD_mem hjl) hn
      · omega
  · rcases hmem k _ hk with ⟨h1, h2⟩ | ⟨rfl, _⟩
    · rw [hgk k h1]; exact h.fresh k cs t' h2
    · rw [hgn]; exact .inr hw
  · rcases hmem k _ hk with ⟨h1, h2⟩ | ⟨rfl, h2⟩
    · obtain ⟨h3, h4⟩ := h.own k cs t' h2
      exact ⟨by rw [hgk k h1, map_ext0 h4]; exact h3, fun v hv => ok0_mono (by simp) (h4 v hv)⟩
    · cases h2
      rw [hgn]
      exact ⟨by rw [map_ext0 hz]; exact hb, fun v hv => ok0_mono (by simp) (hz v hv)⟩
  · rcases hmem k _ hk with ⟨h1, h2⟩ | ⟨_, h2⟩
    · obtain ⟨h3, h0, h4, h5⟩ := h.ro k cs h2
      rw [hgk k h1]
      exact ⟨h3, h0, fun i v hv => by rw [conc0_ext (h5 v (List.mem_of_getElem? hv))]; exact h4 i v hv, fun v hv => ok0_mono (by simp) (h5 v hv)⟩
    · cases h2

theorem finK_sound {w0 : Base} {w : World} {ν : Nat → Nat} : ∀ (vs : List NewVar) {tm : List Value} {mem : Mem} {K : List Value → Mem → Prop}, finK vs tm mem K → ∀ {ρ : List Nat} {a : Act}, TmAt ρ tm a → MemAt w0 ρ mem w →
    (∀ x ∈ vs, w.heap[ν x.1]? = some (.cells (x.2.2.2.map (conc0 ρ)).toArray x.2.2.1 (0, 0)) ∧ w0.w.heap.size ≤ ν x.1 ∧ ν x.1 ∉ ρ ∧ ∀ v ∈ x.2.2.2, ok0 ρ.length v) → vs.Pairwise (fun x y => ν x.1 ≠ ν y.1) →
    ∃ σ tm' mem', K tm' mem' ∧ TmAt (ρ ++ σ) tm' (foldPut ν vs a) ∧ MemAt w0 (ρ ++ σ) mem' w
  | [], tm, mem, K, h, ρ, a, ha, hm, _, _ => ⟨[], tm, mem, h, by rw [List.append_nil]; exact ha, by rw [List.append_nil]; exact hm⟩
  | x :: vs, tm, mem, K, h, ρ, a, ha, hm, hx, hp => by
    obtain ⟨i, d, t, z⟩ := x
    unfold finK at h
    rw [numK_eq, putK_eq, forceL_eq] at h
    obtain ⟨h1, h2, h3, h4⟩ := hx (i, d, t, z) (by simp)
    have hm' := hm.adopt h1 h2 h3 h4
    have hv : ok2 (ρ ++ [ν i]).length (.pointer (some ⟨mem.length, 0, none⟩)) := by simp [ok2, ok1, ok0, hm.len]
    have ha' := (ha.ext [ν i]).put d hv
    have hcv : conc (ρ ++ [ν i]) (.pointer (some ⟨mem.length, 0, none⟩)) = .pointer (some ⟨ν i, 0, none⟩) := by
      simp only [conc, conc1, conc0, cAddr, ← hm.len, getD_new]
    rw [hcv] at ha'
    obtain ⟨σ, tm', mem', hk, ha'', hm''⟩ := finK_sound vs h ha' hm' (fun y hy => by
      obtain ⟨g1, g2, g3, g4⟩ := hx y (by simp [hy])
      refine ⟨by rw [map_ext0 g4]; exact g1, g2, fun hmem => ?_, fun v hv => ok0_mono (by simp) (g4 v hv)⟩
      rcases List.mem_append.1 hmem with hmem | hmem
      · exact g3 hmem
      · simp at hmem
        exact (List.rel_of_pairwise_cons hp hy) hmem.symm) (List.pairwise_cons.1 hp).2
    refine ⟨[ν i] ++ σ, tm', mem', hk, ?_, ?_⟩
    · rw [← List.append_assoc]; exact ha''
    · rw [← List.append_assoc]; exact hm''

theorem act_eq {a b : Act} (h1 : a.defers = b.defers) (h2 : ∀ t : Nat, a.tmps[t]? = b.tmps[t]?) : a = b := by
  cases a; cases b
  simp only at h1 h2
  subst h1
  congr
  exact Array.ext_getElem? h2

theorem MemAt.updNew {w0 : Base} {w : World} {ρ : List Nat} {mem : Mem} (h : MemAt w0 ρ mem w) {b : Nat} {o : Obj} (hb : w0.w.heap.size ≤ b) (hn : b ∉ ρ) : MemAt w0 ρ mem (upd w b o) := by
  have hsz : (upd w b o).heap.size = w.heap.size := by simp [upd]
  have hk : ∀ k, k ≠ b → (upd w b o).heap[k]? = w.heap[k]? := fun k hk => by
    unfold upd
    simp only [Array.getElem?_setIfInBounds]
    rw [if_neg (fun e => hk e.symm)]
  exact { os := h.os, tape := h.tape, output := h.output, size := by rw [hsz]; exact h.size, len := h.len, lt := fun c hc => by rw [hsz]; exact h.lt c hc, inj := h.inj
          old := fun c hc hne => by rw [hk c (by omega)]; exact h.old c hc hne
          fresh := h.fresh
          own := fun k cs t hkk => by
            obtain ⟨h1, h2⟩ := h.own k cs t hkk
            have hkl : k < ρ.length := by rw [h.len]; exact getElem?_len hkk
            rw [hk _ (fun e => hn (e ▸ getD_mem hkl))]
            exact ⟨h1, h2⟩
          ro := h.ro }

theorem drawK_sound (hT : T.Ok P) (hmix : P.follows .mixedOrders = true) {id : Nat} {ops : List Oper} {tm : List Value} {mem : Mem} {K : List Value → Mem → Prop} (h : DrawK P T ops tm mem K)
    {w0 : Base} {ρ : List Nat} {w : World} {a0 : Act} (ha : TmAt ρ tm a0) (hm : MemAt w0 ρ mem w) {Q : Exit → Act → World → Prop}
    (hQ : ∀ σ tm' mem' a' w', K tm' mem' → TmAt (ρ ++ σ) tm' a' → MemAt w0 (ρ ++ σ) mem' w' → Q .normal a' w') : (Code.region id ops.toArray true).wp P Q a0 w := by
  obtain ⟨n, hchk, hH⟩ := h.ex
  unfold drawAt at hH
  have hc := headChk_spec hchk
  have hle : n ≤ ops.length := by simpa using hc.le
  have htl : (ops.take n).length = n := by simp [hle]
  obtain ⟨rf, tmF, hK, hA, hF⟩ := evH_sound hT (ops.take n) 0 hH (fun j hj => by
    have hj' : j < n := by omega
    simp [hj'])
  rw [htl] at hK hA hF
  obtain ⟨haF, hfacts⟩ := hF w0 ρ w a0 (fun j => concR ρ (rf j)) hm (fun j _ _ => rfl) ha
  simp only [Nat.zero_add] at haF hfacts hA
  have hop : ∀ (i : Nat) (o : Oper), ops.toArray[i]? = some o → ops[i]? = some o := fun i o ho => by simpa using ho
  have hops : ∀ i, i < n → ∃ o, ops[i]? = some o := fun i hi => by
    have hlt : i < ops.length := by omega
    exact ⟨ops[i], by simp [hlt]⟩
  have hsa : ∀ j x z, j < n → rf j = .st x z → stAt ops.toArray j = some x := fun j x z hj hr => by
    obtain ⟨o, ho⟩ := hops j hj
    have := hfacts j o (Nat.zero_le _) hj ho
    unfold Fact at this
    rw [hr] at this
    obtain ⟨t, y, k, z0, h1, h2, h3, _⟩ := this
    simp [stAt, ho, stSlot, h1, h2, h3]
  have hus : ∀ j k x z z', j < n → k < n → rf j = .st x z → rf k = .st x z' → j = k := fun j k x z z' hj hk h1 h2 => by
    obtain ⟨_, _, _, _, _, hu⟩ := hc.st j x hj (hsa j x z hj h1)
    exact (hu k hk (hsa k x z' hk h2)).symm
  have hstm : ∀ m, m ≤ n → ∀ j x z, j < m → rf j = .st x z → ∃ i t z0, i < j ∧ dstAt ops.toArray i = some x ∧ rf i = .al t z0 := by
    intro m
    induction m with
    | zero => intro _ j _ _ hj; omega
    | succ m ih =>
      intro hm' j x z hj hr
      by_cases hjm : j < m
      · exact ih (by omega) j x z hjm hr
      · have hjm' : j = m := by omega
        subst hjm'
        have hacc := accOk (ops := ops) (rf := rf) (m := j) (fun i k d hi hk => hc.uniq i k d (by omega) (by omega)) (ih (by omega)) (fun i k x z z' hi hk => hus i k x z z' (by omega) (by omega)) j (Nat.le_refl _)
        obtain ⟨o, ho⟩ := hops j (by omega)
        have := hfacts j o (Nat.zero_le _) (by omega) ho
        unfold Fact at this
        rw [hr] at this
        obtain ⟨t, y, k, z0, _, _, _, _, _, hk, _⟩ := this
        rw [Nat.sub_zero] at hk
        obtain ⟨g1, g2, z1, g3⟩ := hacc.mem _ hk
        exact ⟨k, t, z1, g1, g2.symm, g3⟩
  have hacc := accOk (ops := ops) (rf := rf) (m := n) (fun i k d hi hk => hc.uniq i k d hi hk) (hstm n (Nat.le_refl _)) hus
  refine wp_region_any hmix ?_
  have main := head_any (P := P) (ops := ops.toArray) (rec := fun j => concR ρ (rf j)) (a0 := a0) (n := n) (als := alAt ops.toArray) hc
    (fun i d hi hal hd => by obtain ⟨v, hv⟩ := hA i d (Nat.zero_le _) hi hal hd; exact ⟨conc ρ v, by simp [hv, concR]⟩)
    (Cl := MemAt w0 ρ mem) (B := w0.w.heap.size) (ρ := ρ) (Q := Q)
    (fun w w' h1 h2 => h1.below h2)
    (fun w h1 => ⟨h1.size, fun hin => by have := h1.lt _ hin; omega⟩)
    (fun i o v hi ho hr => by
      have := hfacts i o (Nat.zero_le _) hi (hop i o ho)
      unfold Fact at this
      cases hri : rf i with
      | q u => simp only [hri, concR, HR.q.injEq] at hr this; subst hr; exact this.2
      | al t z => simp [hri, concR] at hr
      | st x z => simp [hri, concR] at hr)
    (fun i v hi hr t hst => by
      obtain ⟨o, ho⟩ := hops i hi
      have := hfacts i o (Nat.zero_le _) hi ho
      unfold Fact at this
      cases hri : rf i with
      | q u =>
        simp only [hri] at this
        simp [stAt, ho, this.1] at hst
      | al t z => simp [hri, concR] at hr
      | st x z => simp [hri, concR] at hr)
    (fun i o t z hi ho hr => by
      have := hfacts i o (Nat.zero_le _) hi (hop i o ho)
      unfold Fact at this
      cases hri : rf i with
      | q u => simp [hri, concR] at hr
      | al t' z' =>
        simp only [hri, concR, HR.al.injEq] at hr this
        obtain ⟨rfl, rfl⟩ := hr
        exact ⟨this.1, this.2.1, this.2.2.1⟩
      | st x z => simp [hri, concR] at hr)
    (fun j o x z hj ho hr => by
      have hf := hfacts j o (Nat.zero_le _) hj (hop j o ho)
      unfold Fact at hf
      cases hri : rf j with
      | q u => simp [hri, concR] at hr
      | al t' z' => simp [hri, concR] at hr
      | st x' z' =>
        simp only [hri, concR, HR.st.injEq] at hr hf
        obtain ⟨rfl, rfl⟩ := hr
        obtain ⟨t, y, k, z0, h1, h2, h3, h4, hxs, hk, h5, h6, h7, h8⟩ := hf
        rw [aLex_size] at hxs
        rw [Nat.sub_zero] at hk
        have hA := hacc j (by omega)
        obtain ⟨g1, g2, z1, g3⟩ := hA.mem _ hk
        have hz : z0 = z1 := by
          rcases hA.fin _ hk z1 g3 with ⟨j', x'', g4, g5, g6⟩ | ⟨_, g4⟩
          · simp only at g6
            cases g6
            have := hus j j' x' z' _ hj (by omega) hri g5
            omega
          · exact g4
        refine ⟨t, y, k, z1, h1, h2, h3, h4, hxs, by simp only at g1; omega, g2.symm, by simp [g3, concR], by rw [List.length_map, h5, hz], fun w => by rw [← hz, ← h5]; exact h6 w, fun v hv => ?_, h8⟩
        obtain ⟨u, hu, rfl⟩ := List.mem_map.1 hv
        exact oneCell_ok0 (h7 u hu))
    (fun w b o h1 h2 h3 => h1.updNew h2 h3)
    (fun a w1 ν inv => ?_)
    n (Array.replicate ops.toArray.size false) a0 { w with drawn := w.drawn + 1 } (fun _ => 0)
    ⟨rfl, rfl, fun i d hi hl _ _ => by
        exfalso
        have hlt : i < ops.length := by omega
        simp [hlt] at hl, fun _ _ => rfl, hm.drew _, fun i t z hi hl _ => by
        exfalso
        have hlt : i < ops.length := by omega
        simp [hlt] at hl, fun i j t z t' z' hi hj hl _ _ _ _ => by
        exfalso
        have hlt : i < ops.length := by omega
        simp [hlt] at hl⟩
    ⟨by simp, fun j oj _ hl => (by rw [getD_replicate_false] at hl; cases hl), fun t _ ht => getD_in (by simpa using ht) (getD_replicate_false _ _)⟩
    (by
      have : ∀ k, k ≤ ops.length → cnt (Array.replicate ops.toArray.size false) k = k := by
        intro k
        induction k with
        | zero => intro _; rfl
        | succ k ih =>
          intro hk
          have hlt : k < ops.length := by omega
          rw [cnt, ih (by omega)]
          simp [hlt]
      exact this n hle)
  · have hsz : n + (ops.toArray.size - n) = ops.toArray.size := by have := hc.le; omega
    rw [hsz] at main
    exact main
  · -- behind the head
    have hAn := hacc n (Nat.le_refl _)
    generalize hals : accH ops rf [] 0 n = als at hK hAn
    have hlist : ∀ i, i < n → (headListed n ops.toArray.size).getD i true = true := fun i hi => by
      have hlt : i < ops.length := by omega
      simp [headListed, hlt, hi]
    have hne : als.Pairwise fun x y => x.1 ≠ y.1 := hAn.sorted.imp fun h => by omega
    have hact : a = foldPut ν als (aLex ops.toArray (fun j => concR ρ (rf j)) a0 n) := by
      have huniq : ∀ t, ∀ x ∈ als, ∀ y ∈ als, x.2.1 = some t → y.2.1 = some t → x.1 = y.1 := fun t x hx y hy hxt hyt => by
        obtain ⟨h1, h2, _⟩ := hAn.mem x hx
        obtain ⟨h3, h4, _⟩ := hAn.mem y hy
        exact hc.uniq x.1 y.1 t h1 h3 (by rw [← h2]; exact hxt) (by rw [← h4]; exact hyt)
      refine act_eq ?_ fun t => ?_
      · rw [inv.defers, foldPut_defers, haF.defers, ha.defers]
      · by_cases hlt : t < a0.tmps.size
        · by_cases hx : ∃ i, i < n ∧ dstAt ops.toArray i = some t
          · obtain ⟨i, hi, hd⟩ := hx
            rw [inv.at_ i t hi (hlist i hi) hd hlt]
            have hnone : (∀ ty z, rf i ≠ .al ty z) → ∀ x ∈ als, x.2.1 ≠ some t := fun hna x hx hxt => by
              obtain ⟨h1, h2, z0, h3⟩ := hAn.mem x hx
              have := hc.uniq x.1 i t h1 hi (by rw [← h2]; exact hxt) hd
              rw [this] at h3
              exact hna _ _ h3
            cases hri : rf i with
            | al ty z =>
              obtain ⟨z', hin⟩ := hAn.has i ty z hi hri
              rw [foldPut_at _ _ hne (huniq t) (by rw [aLex_size]; exact hlt) _ hin hd]
              simp [cv, hri, concR]
            | q v =>
              rw [foldPut_other _ _ (hnone fun ty z h => by rw [hri] at h; cases h), aLex_at hc n (Nat.le_refl _) i t hi hd hlt]
              simp [cv, hri, concR, HR.val]
            | st x z =>
              rw [foldPut_other _ _ (hnone fun ty z h => by rw [hri] at h; cases h), aLex_at hc n (Nat.le_refl _) i t hi hd hlt]
              simp [cv, hri, concR, HR.val]
          · have hx' : ∀ i, i < n → dstAt ops.toArray i ≠ some t := fun i hi hd => hx ⟨i, hi, hd⟩
            rw [inv.other t fun i hi _ => hx' i hi, foldPut_other _ _ fun x hx hxt => ?_, aLex_other n t fun i hi => hx' i hi]
            obtain ⟨h1, h2, _⟩ := hAn.mem x hx
            exact hx' x.1 h1 (by rw [← h2]; exact hxt)
        · rw [Array.getElem?_eq_none (by rw [inv.size]; omega), Array.getElem?_eq_none (by rw [foldPut_size, aLex_size]; omega)]
    obtain ⟨σ, tm', mem', hk, ha', hm'⟩ := finK_sound (w0 := w0) (w := w1) (ν := ν) als hK haF inv.cl
      (fun e he => by
        obtain ⟨h1, h2, z0, h3⟩ := hAn.mem e he
        obtain ⟨zz, h4, _, h5, h6, h7, h8⟩ := inv.blk e.1 e.2.2.1 z0 h1 (hlist _ h1) (by simp [h3, concR])
        rcases hAn.fin e he z0 h3 with ⟨j, x, g1, g2, g3⟩ | ⟨g1, g2⟩
        · have hzz := h7 j x (e.2.2.2.map (conc0 ρ)) g1 (hlist j g1) (by simp [g2, concR]) (by rw [← h2]; exact g3)
          obtain ⟨o, ho⟩ := hops j g1
          have hf := hfacts j o (Nat.zero_le _) g1 ho
          unfold Fact at hf
          rw [g2] at hf
          obtain ⟨_, _, _, _, _, _, _, _, _, _, _, _, g4, _⟩ := hf
          exact ⟨by rw [h4, hzz], h5, h6, g4⟩
        · have hzz := h8 fun j x z' hj hlj hrj hdj => by
            cases hri : rf j with
            | q u => simp [hri, concR] at hrj
            | al t' z' => simp [hri, concR] at hrj
            | st x' z'' =>
              simp only [hri, concR, HR.st.injEq] at hrj
              obtain ⟨rfl, _⟩ := hrj
              exact g1 j x' z'' hj hri (by rw [h2]; exact hdj)
          obtain ⟨o, ho⟩ := hops e.1 h1
          have hf := hfacts e.1 o (Nat.zero_le _) h1 ho
          unfold Fact at hf
          rw [h3] at hf
          have hpl := hf.2.2.2
          rw [g2]
          refine ⟨by rw [h4, hzz, map_plain fun v hv => (plain0_ok (allL_spec hpl v hv) 0 ρ).2], h5, h6, fun v hv => (plain0_ok (allL_spec hpl v hv) _ []).1⟩)
      (by
        refine hne.imp_of_mem fun {x y} hx hy hxy he => ?_
        obtain ⟨h1, _, z1, h3⟩ := hAn.mem x hx
        obtain ⟨h4, _, z2, h6⟩ := hAn.mem y hy
        exact hxy (inv.inj x.1 y.1 x.2.2.1 z1 y.2.2.1 z2 h1 h4 (hlist _ h1) (hlist _ h4) (by simp [h3, concR]) (by simp [h6, concR]) he))
    rw [← hact] at ha'
    have hdl : ops.toArray.toList.drop n = ops.drop n := rfl
    rw [hdl]
    refine evOps_sound hT (ops.drop n) hk ha' hm' fun σ' tm'' mem'' a' w' hk' ha'' hm'' => ?_
    rw [List.append_assoc] at ha'' hm''
    exact hQ (σ ++ σ') _ _ _ _ hk' ha'' hm''

end
end Go.Ev
