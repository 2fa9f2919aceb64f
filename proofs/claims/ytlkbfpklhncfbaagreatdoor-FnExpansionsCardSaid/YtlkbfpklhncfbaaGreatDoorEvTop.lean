/-
  The evaluator, part 7: drawn regions at the evaluator's own level; code; functions and their contracts.
  Conditions: none.
-/
import Derived.Test.YtlkbfpklhncfbaaGreatDoorEvCode
import Derived.Test.YtlkbfpklhncfbaaGreatDoorEvPlan
set_option linter.unusedVariables false
set_option linter.unusedSimpArgs false
namespace Go.Ev
open Go.RowKit

/-! ## The head of a drawn region -/

def isAl (o : Oper) : Bool := match o.op, o.guard with
  | .alloc _, none => true
  | _, _ => false

def alAt (ops : Array Oper) (i : Nat) : Bool := match ops[i]? with
  | some o => isAl o
  | none => false

/-- The operations from s on, those ahead of n, are a head, reckoned. -/
def headChk (ops : Array Oper) (s n : Nat) : Bool :=
  Region.noSelect ops && decide (n ≤ ops.size) && decide (s ≤ n) &&
  ((List.range (ops.size - n)).all fun t => (List.range (n - s)).all fun i => (reach ops (n + t)).contains (s + i)) &&
  ((List.range n).all fun i => (List.range n).all fun j =>
    (match dstAt ops i with
     | some d => (decide (i = j) || dstAt ops j != some d) && (decide (j < s) || !(looksN ops j).contains d || decide (i < s) || (decide (i < j) && Region.waitsFor .any ops j i && !alAt ops i) || (decide (j < i) && Region.waitsFor .any ops i j) || stAt ops j == some d)
     | none => true)) &&
  ((List.range n).all fun j => decide (j < s) || match stAt ops j with
    | some x => (List.range n).any (fun i => decide (s ≤ i) && dstAt ops i == some x && alAt ops i && Region.waitsFor .any ops j i) && (List.range n).all (fun k => decide (k < s) || stAt ops k != some x || k == j)
    | none => true)

def backB (ops : Array Oper) : Bool := (List.range ops.size).all fun j => match ops[j]? with
    | some o => o.after.all fun e => !Region.binds .any e || decide (e.on < j)
    | none => true

theorem backB_spec {ops : Array Oper} (h : backB ops = true) : ∀ j o, ops[j]? = some o → ∀ e ∈ o.after, Region.binds .any e = true → e.on < j := fun j o ho e he hb => by
  have hj : j < ops.size := (Array.getElem?_eq_some_iff.1 ho).1
  have := List.all_eq_true.1 h j (List.mem_range.2 hj)
  rw [ho] at this
  have := Array.all_eq_true_iff_forall_mem.1 this e he
  simpa [hb] using this

theorem headChk_spec {ops : Array Oper} {s n : Nat} (hb : backB ops = true) (h : headChk ops s n = true) : HeadOk ops s n (alAt ops) ∧ s ≤ n := by
  simp only [headChk, Bool.and_eq_true] at h
  obtain ⟨⟨⟨⟨⟨h1, h2⟩, h0⟩, h3⟩, h4⟩, h7⟩ := h
  have h2' : n ≤ ops.size := of_decide_eq_true h2
  have h4' : ∀ i j d, i < n → j < n → dstAt ops i = some d → ((i = j) ∨ dstAt ops j ≠ some d) ∧ (s ≤ j → d ∈ looksN ops j → i < s ∨ (i < j ∧ Region.waitsFor .any ops j i = true ∧ alAt ops i = false) ∨ (j < i ∧ Region.waitsFor .any ops i j = true) ∨ stAt ops j = some d) := fun i j d hi hj hd => by
    have := List.all_eq_true.1 (List.all_eq_true.1 h4 i (List.mem_range.2 hi)) j (List.mem_range.2 hj)
    rw [hd] at this
    simp only [Bool.and_eq_true, Bool.or_eq_true, decide_eq_true_eq, bne_iff_ne, ne_eq, Bool.not_eq_true', List.contains_eq_mem, decide_eq_false_iff_not, beq_iff_eq] at this
    refine ⟨this.1, fun hs hl => ?_⟩
    rcases this.2 with ((((h | h) | h) | h) | h) | h
    · omega
    · exact absurd hl h
    · exact .inl h
    · exact .inr (.inl ⟨h.1.1, h.1.2, h.2⟩)
    · exact .inr (.inr (.inl h))
    · exact .inr (.inr (.inr h))
  refine ⟨⟨h1, h2', fun t i ht htl hsi hin => ?_, fun i j d hi hj hdi hdj => ?_, fun i j d hi hs hj hd hl => (h4' i j d hi hj hd).2 hs hl, fun j o _ hj ho e he hbe => backB_spec hb j o ho e he hbe, fun j x hs hj hx => ?_⟩, of_decide_eq_true h0⟩
  · have := List.all_eq_true.1 (List.all_eq_true.1 h3 (t - n) (List.mem_range.2 (by omega))) (i - s) (List.mem_range.2 (by omega))
    rw [show n + (t - n) = t by omega, show s + (i - s) = i by omega] at this
    simpa using this
  · rcases (h4' i j d hi hj hdi).1 with h | h
    · exact h
    · exact absurd hdj h
  · have := List.all_eq_true.1 h7 j (List.mem_range.2 hj)
    rw [hx] at this
    simp only [Bool.and_eq_true, List.any_eq_true, List.all_eq_true, List.mem_range, beq_iff_eq, Bool.or_eq_true, bne_iff_ne, ne_eq, decide_eq_true_eq] at this
    rcases this with this | this
    · omega
    obtain ⟨⟨i, hi, ⟨⟨hsi, hd⟩, ha⟩, hw⟩, hu⟩ := this
    refine ⟨i, hsi, hi, hd, ha, hw, fun k hsk hk hkx => ?_⟩
    rcases hu k hk with (h | h) | h
    · omega
    · exact absurd hkx h
    · exact h

/-- One operation of the head that is no new variable. -/
def quietK (P : Program) (T : Tbl) (o : Oper) (tm : List Value) (mem : Mem) (k : Value → Prop) : Prop :=
  match o.op with
  | .call { callee := .value x, args := args, argTypes := _ } => calleeK tm x args fun n vs => ∃ v, CallQ P n vs mem v ∧ k v
  | op => evR T op tm mem k

/-- A new variable of the head: its index, its slot, its type, its cells. -/
abbrev NewVar := Nat × Option Nat × Nat × List Value

def eqD (d : Option Nat) (x : Nat) : Bool := match d with
  | some y => Nat.beq y x
  | none => false
theorem eqD_spec {d : Option Nat} {x : Nat} (h : eqD d x = true) : d = some x := by
  cases d with
  | none => cases h
  | some y => rw [Nat.eq_of_beq_eq_true h]

/-- The new variable of slot x is filled. -/
def stK : List NewVar → Nat → Nat → List Value → (List NewVar → Prop) → Prop
  | [], _, _, _, _ => False
  | (i, d, t', z) :: als, x, t, vs, k => match eqD d x with
    | true => match Nat.beq t' t && Nat.beq z.length vs.length with
      | true => k ((i, d, t', vs) :: als)
      | false => False
    | false => stK als x t vs fun als' => k ((i, d, t', z) :: als')

def setX : List NewVar → Nat → List Value → List NewVar
  | [], _, _ => []
  | (i, d, t', z) :: als, x, vs => match eqD d x with
    | true => (i, d, t', vs) :: als
    | false => (i, d, t', z) :: setX als x vs

theorem stK_spec : ∀ {als : List NewVar} {x t : Nat} {vs : List Value} {k : List NewVar → Prop}, stK als x t vs k → k (setX als x vs) ∧ ∃ i z, (i, some x, t, z) ∈ als ∧ vs.length = z.length
  | [], _, _, _, _, h => h.elim
  | (i, d, t', z) :: als, x, t, vs, k, h => by
    unfold stK at h
    unfold setX
    split at h
    · rename_i hd
      split at h
      · rename_i hc
        simp only [Bool.and_eq_true] at hc
        have e1 := Nat.eq_of_beq_eq_true hc.1
        have e2 := Nat.eq_of_beq_eq_true hc.2
        exact ⟨h, i, z, by rw [eqD_spec hd, e1]; exact List.mem_cons_self, e2.symm⟩
      · exact h.elim
    · rename_i hd
      obtain ⟨h1, j, z', h2, h3⟩ := stK_spec h
      exact ⟨h1, j, z', List.mem_cons_of_mem _ h2, h3⟩

/-- What a store of the head yields. -/
def evS (T : Tbl) (tm : List Value) (als : List NewVar) (t x : Nat) (y : Operand) (k : List NewVar → Prop) : Prop :=
  lookT T t fun ti => opK tm y fun yv => cellsK yv fun vs => match Nat.beq ti.size vs.length && Nat.blt x tm.length with
    | true => stK als x t vs k
    | false => False

def isTmp (y : Operand) (x : Nat) : Bool := match y with
  | .tmp u => Nat.beq u x
  | _ => false

noncomputable def evH (P : Program) (T : Tbl) (ops : List Oper) (l : List Oper) : Nat → List Value → Mem → List NewVar → (List Value → List NewVar → Prop) → Prop :=
  @List.rec Oper (fun _ => Nat → List Value → Mem → List NewVar → (List Value → List NewVar → Prop) → Prop) (fun _ tm _ als K => K tm als)
    (fun o _ ih i tm mem als K => match isAl o, o.op with
    | false, .store t (.tmp x) y => match stSlot o, isTmp y x with
      | some _, false => evS T tm als t x y fun als' => forceL als' fun als'' => ih (i + 1) tm mem als'' K
      | _, _ => False
    | true, .alloc t => lookT T t fun ti => putK o.dst undef tm fun tm' => forceL (als ++ [(i, o.dst, t, ti.zero)]) fun als' => ih (i + 1) tm' mem als' K
    | _, _ => guardK ops o tm
      (quietK P T o tm mem fun v => putK o.dst v tm fun tm' => ih (i + 1) tm' mem als K)
      (putK o.dst undef tm fun tm' => ih (i + 1) tm' mem als K)) l

theorem evH_cons (P : Program) (T : Tbl) (ops : List Oper) (o : Oper) (rest : List Oper) (i : Nat) (tm : List Value) (mem : Mem) (als : List NewVar) (K : List Value → List NewVar → Prop) : evH P T ops (o :: rest) i tm mem als K =
    (match isAl o, o.op with
    | false, .store t (.tmp x) y => match stSlot o, isTmp y x with
      | some _, false => evS T tm als t x y fun als' => forceL als' fun als'' => evH P T ops rest (i + 1) tm mem als'' K
      | _, _ => False
    | true, .alloc t => lookT T t fun ti => putK o.dst undef tm fun tm' => forceL (als ++ [(i, o.dst, t, ti.zero)]) fun als' => evH P T ops rest (i + 1) tm' mem als' K
    | _, _ => guardK ops o tm
      (quietK P T o tm mem fun v => putK o.dst v tm fun tm' => evH P T ops rest (i + 1) tm' mem als K)
      (putK o.dst undef tm fun tm' => evH P T ops rest (i + 1) tm' mem als K)) := rfl

/-- The new variables take their places. -/
def finK : List NewVar → List Value → Mem → (List Value → Mem → Prop) → Prop
  | [], tm, mem, K => K tm mem
  | (_, d, t, z) :: als, tm, mem, K => numK mem.length fun m => putK d (.pointer (some ⟨m, 0, none⟩)) tm fun tm' => forceL (mem ++ [(z, some t)]) fun mem' => finK als tm' mem' K

/-- The region in pieces: each ends ahead of a number; it is a head, whose order is drawn, or one operation. -/
noncomputable def planK (P : Program) (T : Tbl) (ops : List Oper) (s : Nat) (plan : List (Nat × Bool)) : List Value → Mem → (List Value → Mem → Prop) → Prop :=
  @List.rec (Nat × Bool) (fun _ => Nat → List Value → Mem → (List Value → Mem → Prop) → Prop) (fun _ tm mem K => K tm mem)
    (fun c _ ih s tm mem K => match c with
      | (n, true) => evH P T ops ((ops.drop s).take (n - s)) s tm mem [] fun tm' als => finK als tm' mem fun tm'' mem' => ih n tm'' mem' K
      | (n, false) => evOps P T ops ((ops.drop s).take 1) tm mem fun tm' mem' => ih n tm' mem' K) plan s

theorem planK_t (P : Program) (T : Tbl) (ops : List Oper) (s n : Nat) (cs : List (Nat × Bool)) (tm : List Value) (mem : Mem) (K : List Value → Mem → Prop) : planK P T ops s ((n, true) :: cs) tm mem K =
    evH P T ops ((ops.drop s).take (n - s)) s tm mem [] fun tm' als => finK als tm' mem fun tm'' mem' => planK P T ops n cs tm'' mem' K := rfl
theorem planK_f (P : Program) (T : Tbl) (ops : List Oper) (s n : Nat) (cs : List (Nat × Bool)) (tm : List Value) (mem : Mem) (K : List Value → Mem → Prop) : planK P T ops s ((n, false) :: cs) tm mem K =
    evOps P T ops ((ops.drop s).take 1) tm mem fun tm' mem' => planK P T ops n cs tm' mem' K := rfl

def planChk (ops : Array Oper) : Nat → List (Nat × Bool) → Bool
  | s, [] => decide (s = ops.size)
  | s, (n, true) :: cs => headChk ops s n && planChk ops n cs
  | s, (n, false) :: cs => decide (n = s + 1) && decide (n ≤ ops.size) && decide (Region.ready .any ops (headListed s ops.size) = [s]) && planChk ops n cs

structure DrawK (P : Program) (T : Tbl) (ops : List Oper) (tm : List Value) (mem : Mem) (K : List Value → Mem → Prop) : Prop where
  ex : (∃ plan, backB ops.toArray = true ∧ planChk ops.toArray 0 plan = true ∧ planK P T ops 0 plan tm mem K) ∨
    ∃ p, (decide (Region.ready .any ops.toArray (Array.replicate ops.toArray.size true) = []) && ptChk ops.toArray p (Array.replicate ops.toArray.size false) (Array.replicate ops.toArray.size true) ops.toArray.size) = true ∧ ptK P T ops p tm mem K

def singles (n : Nat) : Nat → List (Nat × Bool)
  | 0 => []
  | k + 1 => (n + 1, false) :: singles (n + 1) k

/-- How many operations the head has, by their kinds. -/
def headN : List Oper → Nat
  | [] => 0
  | o :: l => match o.op with
    | .store .. | .box .. | .buildSlice .. | .makeMap .. | .insert .. | .mapUpdate .. | .makeSlice .. => 0
    | .alloc _ => match o.guard with
      | none => headN l + 1
      | some _ => 0
    | .call { callee := .builtin b, .. } => match b with
      | .append => 0
      | _ => headN l + 1
    | _ => headN l + 1

/-- As headN, but for the assignments. -/
def headA : List Oper → Nat
  | [] => 0
  | o :: l => match o.op with
    | .assign _ => 0
    | .store .. | .box .. | .buildSlice .. | .makeMap .. | .insert .. | .mapUpdate .. | .makeSlice .. => 0
    | .alloc _ => match o.guard with
      | none => headA l + 1
      | some _ => 0
    | .call { callee := .builtin b, .. } => match b with
      | .append => 0
      | _ => headA l + 1
    | _ => headA l + 1

/-- As headN, but with the stores that fill new variables. -/
def headS : List Oper → Nat
  | [] => 0
  | o :: l => match o.op with
    | .box .. | .buildSlice .. | .makeMap .. | .insert .. | .mapUpdate .. | .makeSlice .. => 0
    | .store _ (.tmp _) _ => headS l + 1
    | .store .. => 0
    | .alloc _ => match o.guard with
      | none => headS l + 1
      | some _ => 0
    | .call { callee := .builtin b, .. } => match b with
      | .append => 0
      | _ => headS l + 1
    | _ => headS l + 1

/-- A head, and the rest one by one. -/
def planOf (ops : List Oper) (n : Nat) : List (Nat × Bool) := (n, true) :: singles n (ops.length - n)

/-- The last call that is no built-in function's. -/
def lastCall : List Oper → Nat → Nat → Nat
  | [], _, c => c
  | o :: l, i, c => match o.op with
    | .call { callee := .value _, .. } => lastCall l (i + 1) i
    | _ => lastCall l (i + 1) c
/-- What is ahead of the last call; the call; what is behind it. -/
def planC (ops : List Oper) : List (Nat × Bool) :=
  match lastCall ops 0 0 with
  | 0 => [(1, false), (ops.length, true)]
  | c => [(c, true), (c + 1, false), (ops.length, true)]

theorem draw_plan {P : Program} {T : Tbl} {ops : List Oper} {tm : List Value} {mem : Mem} {K : List Value → Mem → Prop} (plan : List (Nat × Bool)) (h : (backB ops.toArray && planChk ops.toArray 0 plan) = true) (hd : planK P T ops 0 plan tm mem K) : DrawK P T ops tm mem K := by
  rw [Bool.and_eq_true] at h
  exact ⟨.inl ⟨plan, h.1, h.2, hd⟩⟩
theorem draw_pt {P : Program} {T : Tbl} {ops : List Oper} {tm : List Value} {mem : Mem} {K : List Value → Mem → Prop} (p : PT) (h : (decide (Region.ready .any ops.toArray (Array.replicate ops.toArray.size true) = []) && ptChk ops.toArray p (Array.replicate ops.toArray.size false) (Array.replicate ops.toArray.size true) ops.toArray.size) = true) (hd : ptK P T ops p tm mem K) : DrawK P T ops tm mem K :=
  ⟨.inr ⟨p, h, hd⟩⟩
theorem draw_auto {P : Program} {T : Tbl} {ops : List Oper} {tm : List Value} {mem : Mem} {K : List Value → Mem → Prop} (h : (backB ops.toArray && planChk ops.toArray 0 (planOf ops (headN ops))) = true) (hd : planK P T ops 0 (planOf ops (headN ops)) tm mem K) : DrawK P T ops tm mem K := draw_plan _ h hd
theorem draw_st {P : Program} {T : Tbl} {ops : List Oper} {tm : List Value} {mem : Mem} {K : List Value → Mem → Prop} (h : (backB ops.toArray && planChk ops.toArray 0 (planOf ops (headS ops))) = true) (hd : planK P T ops 0 (planOf ops (headS ops)) tm mem K) : DrawK P T ops tm mem K := draw_plan _ h hd
theorem draw_asg {P : Program} {T : Tbl} {ops : List Oper} {tm : List Value} {mem : Mem} {K : List Value → Mem → Prop} (h : (backB ops.toArray && planChk ops.toArray 0 (planOf ops (headA ops))) = true) (hd : planK P T ops 0 (planOf ops (headA ops)) tm mem K) : DrawK P T ops tm mem K := draw_plan _ h hd
theorem draw_call {P : Program} {T : Tbl} {ops : List Oper} {tm : List Value} {mem : Mem} {K : List Value → Mem → Prop} (h : (backB ops.toArray && planChk ops.toArray 0 (planC ops)) = true) (hd : planK P T ops 0 (planC ops) tm mem K) : DrawK P T ops tm mem K := draw_plan _ h hd

section
variable {P : Program} {T : Tbl}

theorem quietK_sound (hT : T.Ok P) (o : Oper) {tm : List Value} {mem : Mem} {k : Value → Prop} (h : quietK P T o tm mem k) :
    ∃ v, k v ∧ ∀ w0 ρ a w, TmAt ρ tm a → MemAt w0 ρ mem w → quietRun P (MemAt w0 ρ mem) o a (conc ρ v) ∧ ok2 ρ.length v := by
  unfold quietK at h
  split at h
  · rename_i x args ts hop
    obtain ⟨n, vs, ⟨v, hq, hk⟩, hs⟩ := calleeK_sound (P := P) h
    refine ⟨v, hk, fun w0 ρ a w1 ha hm1 => ⟨fun w hm => ?_, by rw [hm1.len]; exact hq.ok⟩⟩
    obtain ⟨hok, hrun⟩ := hs ρ a ha
    rw [hrun o ts hop hq.enters w]
    exact ⟨rfl, hq.run w0 ρ w hm hok⟩
  · obtain ⟨v, hk, hs⟩ := evR_sound hT o h
    refine ⟨v, hk, fun w0 ρ a w1 ha hm1 => ⟨fun w hm => ?_, (hs w0 ρ w1 a ha hm1).2⟩⟩
    rw [(hs w0 ρ w a ha hm).1]
    exact ⟨rfl, rfl⟩

def concR (ρ : List Nat) : HR → HR
  | .q v => .q (conc ρ v)
  | .al t z => .al t z
  | .st x z => .st x (z.map (conc0 ρ))

/-- The new variables, behind n operations from the i-th on. -/
def accH (ops : List Oper) (rf : Nat → HR) : List NewVar → Nat → Nat → List NewVar
  | als, _, 0 => als
  | als, i, n + 1 => match rf i with
    | .q _ => accH ops rf als (i + 1) n
    | .al t z => accH ops rf (als ++ [(i, dstAt ops.toArray i, t, z)]) (i + 1) n
    | .st x z => accH ops rf (setX als x z) (i + 1) n

theorem accH_congr {ops : List Oper} {rf rf' : Nat → HR} : ∀ (n i : Nat) (als : List NewVar), (∀ j, i ≤ j → j < i + n → rf j = rf' j) → accH ops rf als i n = accH ops rf' als i n
  | 0, _, _, _ => rfl
  | n + 1, i, als, h => by
    unfold accH
    rw [h i (by omega) (by omega)]
    cases rf' i <;> exact accH_congr n (i + 1) _ fun j h1 h2 => h j (by omega) (by omega)

theorem accH_add {ops : List Oper} {rf : Nat → HR} : ∀ (m n i : Nat) (als : List NewVar), accH ops rf als i (m + n) = accH ops rf (accH ops rf als i m) (i + m) n
  | 0, n, i, als => by simp [accH]
  | m + 1, n, i, als => by
    rw [show m + 1 + n = (m + n) + 1 by omega, show i + (m + 1) = i + 1 + m by omega]
    rw [accH, accH]
    cases rf i <;> exact accH_add m n (i + 1) _

theorem setX_mem {x : Nat} {vs : List Value} : ∀ {als : List NewVar} {e : NewVar}, e ∈ setX als x vs → e ∈ als ∨ (e.2.2.2 = vs ∧ e.2.1 = some x ∧ ∃ z, (e.1, e.2.1, e.2.2.1, z) ∈ als)
  | [], e, h => by cases h
  | (i, d, t, z) :: als, e, h => by
    unfold setX at h
    split at h
    · rename_i hd
      rcases List.mem_cons.1 h with rfl | h
      · exact .inr ⟨rfl, eqD_spec hd, z, List.mem_cons_self⟩
      · exact .inl (List.mem_cons_of_mem _ h)
    · rcases List.mem_cons.1 h with rfl | h
      · exact .inl List.mem_cons_self
      · rcases setX_mem h with h | ⟨h1, h2, z', h3⟩
        · exact .inl (List.mem_cons_of_mem _ h)
        · exact .inr ⟨h1, h2, z', List.mem_cons_of_mem _ h3⟩

theorem setX_map {x : Nat} {vs : List Value} : ∀ (als : List NewVar), (setX als x vs).map (fun e => (e.1, e.2.1, e.2.2.1)) = als.map (fun e => (e.1, e.2.1, e.2.2.1))
  | [] => rfl
  | (i, d, t, z) :: als => by
    unfold setX
    split
    · rfl
    · simp [setX_map als]

/-- What is known of the new variables behind n operations. -/
structure AccOk (ops : List Oper) (rf : Nat → HR) (n : Nat) (als : List NewVar) : Prop where
  mem : ∀ e ∈ als, e.1 < n ∧ e.2.1 = dstAt ops.toArray e.1 ∧ ∃ z0, rf e.1 = .al e.2.2.1 z0
  fin : ∀ e ∈ als, ∀ z0, rf e.1 = .al e.2.2.1 z0 → (∃ j x, j < n ∧ rf j = .st x e.2.2.2 ∧ e.2.1 = some x) ∨ ((∀ j x z', j < n → rf j = .st x z' → e.2.1 = some x → False) ∧ e.2.2.2 = z0)
  has : ∀ j t z, j < n → rf j = .al t z → ∃ z', (j, dstAt ops.toArray j, t, z') ∈ als
  sorted : als.Pairwise fun x y => x.1 < y.1

theorem accOk {ops : List Oper} {rf : Nat → HR} {m : Nat} (hu : ∀ i j d, i < m → j < m → dstAt ops.toArray i = some d → dstAt ops.toArray j = some d → i = j)
    (hst : ∀ j x z, j < m → rf j = .st x z → ∃ i t z0, i < j ∧ dstAt ops.toArray i = some x ∧ rf i = .al t z0) (hus : ∀ j k x z z', j < m → k < m → rf j = .st x z → rf k = .st x z' → j = k) :
    ∀ n, n ≤ m → AccOk ops rf n (accH ops rf [] 0 n)
  | 0, _ => ⟨fun e he => (by cases he), fun e he => (by cases he), fun j t z hj => by omega, List.Pairwise.nil⟩
  | n + 1, hm => by
    have ih := accOk hu hst hus n (by omega)
    rw [accH_add n 1 0 []]
    simp only [Nat.zero_add]
    generalize accH ops rf [] 0 n = als at ih
    unfold accH
    cases hr : rf n with
    | q v =>
      simp only [accH]
      refine ⟨fun e he => ?_, fun e he z0 h0 => ?_, fun j t z hj h => ?_, ih.sorted⟩
      · obtain ⟨h1, h2, h3⟩ := ih.mem e he
        exact ⟨by omega, h2, h3⟩
      · rcases ih.fin e he z0 h0 with ⟨j, x, h1, h2, h3⟩ | ⟨h1, h2⟩
        · exact .inl ⟨j, x, by omega, h2, h3⟩
        · refine .inr ⟨fun j x z' hj hs hx => ?_, h2⟩
          by_cases hjn : j = n
          · subst hjn; rw [hr] at hs; cases hs
          · exact h1 j x z' (by omega) hs hx
      · by_cases hjn : j = n
        · subst hjn; rw [hr] at h; cases h
        · exact ih.has j t z (by omega) h
    | al t z =>
      simp only [accH]
      have hno : ∀ j x z', j < n + 1 → rf j = .st x z' → dstAt ops.toArray n = some x → False := fun j x z' hj hs hx => by
        obtain ⟨i, t', z0, hi, hd, hri⟩ := hst j x z' (by omega) hs
        have : i = n := hu i n x (by omega) (by omega) hd hx
        omega
      refine ⟨fun e he => ?_, fun e he z0 h0 => ?_, fun j t' z' hj h => ?_, ?_⟩
      · rcases List.mem_append.1 he with he | he
        · obtain ⟨h1, h2, h3⟩ := ih.mem e he
          exact ⟨by omega, h2, h3⟩
        · rw [List.mem_singleton] at he
          subst he
          exact ⟨by simp, rfl, z, hr⟩
      · rcases List.mem_append.1 he with he | he
        · rcases ih.fin e he z0 h0 with ⟨j, x, h1, h2, h3⟩ | ⟨h1, h2⟩
          · exact .inl ⟨j, x, by omega, h2, h3⟩
          · refine .inr ⟨fun j x z' hj hs hx => ?_, h2⟩
            by_cases hjn : j = n
            · subst hjn; rw [hr] at hs; cases hs
            · exact h1 j x z' (by omega) hs hx
        · rw [List.mem_singleton] at he
          subst he
          simp only at h0 ⊢
          rw [hr] at h0
          cases h0
          exact .inr ⟨hno, rfl⟩
      · by_cases hjn : j = n
        · subst hjn
          rw [hr] at h
          cases h
          exact ⟨z, List.mem_append_right _ (by simp)⟩
        · obtain ⟨z'', h'⟩ := ih.has j t' z' (by omega) h
          exact ⟨z'', List.mem_append_left _ h'⟩
      · refine List.pairwise_append.2 ⟨ih.sorted, List.pairwise_singleton _ _, fun e he e' he' => ?_⟩
        rw [List.mem_singleton] at he'
        subst he'
        exact (ih.mem e he).1
    | st x z =>
      simp only [accH]
      have hmap := setX_map (x := x) (vs := z) als
      refine ⟨fun e he => ?_, fun e he z0 h0 => ?_, fun j t' z' hj h => ?_, ?_⟩
      · rcases setX_mem he with he | ⟨_, _, z'', he⟩
        · obtain ⟨h1, h2, h3⟩ := ih.mem e he
          exact ⟨by omega, h2, h3⟩
        · obtain ⟨h1, h2, h3⟩ := ih.mem _ he
          exact ⟨by simp only at h1; omega, h2, h3⟩
      · -- an entry of slot x is the filled one
        by_cases hx : e.2.1 = some x
        · refine .inl ⟨n, x, by omega, ?_, hx⟩
          rw [hr]
          congr 1
          rcases setX_mem he with he' | ⟨h1, _, _⟩
          · -- it lies in the list unfilled, though its slot is x: then its twin is ahead of it, against the order
            exact (setX_fill he hx (fun e1 h1 e2 h2 g1 g2 => by
              obtain ⟨a1, a2, _⟩ := ih.mem e1 h1
              obtain ⟨b1, b2, _⟩ := ih.mem e2 h2
              exact hu e1.1 e2.1 x (by omega) (by omega) (by rw [← a2]; exact g1) (by rw [← b2]; exact g2)) ih.sorted).symm
          · exact h1.symm
        · have he' : e ∈ als := by
            rcases setX_mem he with he' | ⟨_, h2, _⟩
            · exact he'
            · exact absurd h2 hx
          rcases ih.fin e he' z0 h0 with ⟨j, y, h1, h2, h3⟩ | ⟨h1, h2⟩
          · exact .inl ⟨j, y, by omega, h2, h3⟩
          · refine .inr ⟨fun j y z' hj hs hy => ?_, h2⟩
            by_cases hjn : j = n
            · subst hjn
              rw [hr] at hs
              cases hs
              exact hx hy
            · exact h1 j y z' (by omega) hs hy
      · by_cases hjn : j = n
        · subst hjn; rw [hr] at h; cases h
        · obtain ⟨z'', h'⟩ := ih.has j t' z' (by omega) h
          have : (j, dstAt ops.toArray j, t') ∈ (setX als x z).map (fun e => (e.1, e.2.1, e.2.2.1)) := by
            rw [hmap]; exact List.mem_map.2 ⟨_, h', rfl⟩
          obtain ⟨e, he, heq⟩ := List.mem_map.1 this
          obtain ⟨e1, e2, e3, e4⟩ := e
          simp only [Prod.mk.injEq] at heq
          obtain ⟨rfl, rfl, rfl⟩ := heq
          exact ⟨e4, he⟩
      · have h1 : ((als.map (fun e => (e.1, e.2.1, e.2.2.1))).map Prod.fst).Pairwise (· < ·) := by
          rw [List.map_map]; exact List.pairwise_map.2 ih.sorted
        rw [← hmap, List.map_map] at h1
        exact List.pairwise_map.1 h1
where
  setX_fill {x : Nat} {vs : List Value} : ∀ {als : List NewVar} {e : NewVar}, e ∈ setX als x vs → e.2.1 = some x →
      (∀ e1 ∈ als, ∀ e2 ∈ als, e1.2.1 = some x → e2.2.1 = some x → e1.1 = e2.1) → als.Pairwise (fun x y => x.1 < y.1) → e.2.2.2 = vs
    | [], e, h, _, _, _ => by cases h
    | (i, d, t, z) :: als, e, h, hx, hu, hp => by
      unfold setX at h
      split at h
      · rename_i hd
        rcases List.mem_cons.1 h with rfl | h
        · rfl
        · have := hu (i, d, t, z) List.mem_cons_self e (List.mem_cons_of_mem _ h) (eqD_spec hd) hx
          have := List.rel_of_pairwise_cons hp h
          simp only at *
          omega
      · rename_i hd
        rcases List.mem_cons.1 h with rfl | h
        · exfalso
          simp only at hx
          rw [hx] at hd
          simp [eqD] at hd
        · exact setX_fill h hx (fun e1 h1 e2 h2 => hu e1 (List.mem_cons_of_mem _ h1) e2 (List.mem_cons_of_mem _ h2)) (List.pairwise_cons.1 hp).2

def zeroIs (P : Program) (t : Nat) (z : List Value) : Prop := (∀ w, ∃ zv, (zeroValue t).run P w = .ok zv w ∧ zv.cells = z.toArray) ∧ allL plain0 z = true

theorem isTmp_ne {y : Operand} {x : Nat} (h : isTmp y x = false) : y ≠ .tmp x := fun e => by
  subst e
  simp [isTmp] at h

/-- What is known of one operation of the head. -/
def Fact (P : Program) (ops : List Oper) (w0 : Base) (ρ : List Nat) (mem : Mem) (rf : Nat → HR) (als : List NewVar) (i : Nat) (lex : Nat → Act) (j : Nat) (o : Oper) : Prop := match rf j with
  | .q v => stSlot o = none ∧ YQ P ops.toArray (MemAt w0 ρ mem) o (conc ρ v) (lex j)
  | .al t z => o.op = .alloc t ∧ o.guard = none ∧ zeroIs P t z
  | .st x z => ∃ t y k z0, o.op = .store t (.tmp x) y ∧ o.guard = none ∧ o.dst = none ∧ y ≠ .tmp x ∧ x < (lex j).tmps.size ∧ (k, some x, t, z0) ∈ accH ops rf als i (j - i) ∧ z.length = z0.length ∧
      (∀ w, (sizeOf t).run P w = .ok z.length w) ∧ (∀ v ∈ z, ok0 ρ.length v) ∧ ((lex j).eval y).cells = (z.map (conc0 ρ)).toArray

theorem stSlot_spec {o : Oper} {x : Nat} (h : stSlot o = some x) : ∃ t y, o.op = .store t (.tmp x) y ∧ o.guard = none ∧ o.dst = none := by
  unfold stSlot at h
  split at h
  · rename_i t x' y h1 h2 h3
    cases h
    exact ⟨t, y, h1, h2, h3⟩
  · cases h

theorem evH_sound (hT : T.Ok P) {ops : List Oper} {mem : Mem} : ∀ (l : List Oper) (i : Nat) {tm : List Value} {als : List NewVar} {K : List Value → List NewVar → Prop}, evH P T ops l i tm mem als K →
    (∀ j, j < l.length → l[j]? = ops[i + j]?) → ∃ (rf : Nat → HR) (tmF : List Value), K tmF (accH ops rf als i l.length) ∧
      (∀ j d, i ≤ j → j < i + l.length → alAt ops.toArray j = false → dstAt ops.toArray j = some d → ∃ v, rf j = .q v) ∧
      ∀ w0 ρ w a0 (rec : Nat → HR), MemAt w0 ρ mem w → (∀ j, i ≤ j → j < i + l.length → rec j = concR ρ (rf j)) → TmAt ρ tm (aLex ops.toArray rec a0 i) →
        TmAt ρ tmF (aLex ops.toArray rec a0 (i + l.length)) ∧
        ∀ j o, i ≤ j → j < i + l.length → ops[j]? = some o → Fact P ops w0 ρ mem rf als i (aLex ops.toArray rec a0) j o
  | [], i, tm, als, K, h, _ => ⟨fun _ => .q undef, tm, by have h' : K tm als := h; simpa [accH] using h', fun j d h1 h2 => by simp at h2; omega, fun w0 ρ w a0 rec hm _ ha => ⟨ha, fun j o h1 h2 => by simp at h2; omega⟩⟩
  | o :: rest, i, tm, als, K, h, hl => by
    have hoi : ops[i]? = some o := by have := hl 0 (by simp); simpa using this.symm
    have hl' : ∀ j, j < rest.length → rest[j]? = ops[i + 1 + j]? := fun j hj => by
      have := hl (j + 1) (by simp; omega)
      rw [show i + 1 + j = i + (j + 1) by omega]
      simpa using this
    have hd : dstAt ops.toArray i = o.dst := by simp [dstAt, hoi]
    have hal : alAt ops.toArray i = isAl o := by simp [alAt, hoi]
    -- one record put ahead of the rest's
    have combine : ∀ (r : HR) (tm' : List Value) (als' : List NewVar), evH P T ops rest (i + 1) tm' mem als' K → als' = accH ops (fun _ => r) als i 1 →
        (isAl o = false → (∃ d, o.dst = some d) → ∃ v, r = .q v) →
        (∀ w0 ρ w a, MemAt w0 ρ mem w → TmAt ρ tm a → TmAt ρ tm' (a.put o.dst (concR ρ r).val) ∧ Fact P ops w0 ρ mem (fun _ => r) als i (fun _ => a) i o) →
        ∃ (rf : Nat → HR) (tmF : List Value), K tmF (accH ops rf als i (rest.length + 1)) ∧
          (∀ j d, i ≤ j → j < i + (rest.length + 1) → alAt ops.toArray j = false → dstAt ops.toArray j = some d → ∃ v, rf j = .q v) ∧
          ∀ w0 ρ w a0 (rec : Nat → HR), MemAt w0 ρ mem w → (∀ j, i ≤ j → j < i + (rest.length + 1) → rec j = concR ρ (rf j)) → TmAt ρ tm (aLex ops.toArray rec a0 i) →
            TmAt ρ tmF (aLex ops.toArray rec a0 (i + (rest.length + 1))) ∧
            ∀ j o, i ≤ j → j < i + (rest.length + 1) → ops[j]? = some o → Fact P ops w0 ρ mem rf als i (aLex ops.toArray rec a0) j o := by
      intro r tm' als' h1 h2 h3 h4
      obtain ⟨rf', tmF, hK, hA, hF⟩ := evH_sound hT rest (i + 1) h1 hl'
      have hrf : ∀ j, i + 1 ≤ j → (fun j => if j = i then r else rf' j) j = rf' j := fun j hj => by simp; intro e; omega
      have hacc : ∀ m, accH ops (fun j => if j = i then r else rf' j) als i (m + 1) = accH ops rf' als' (i + 1) m := fun m => by
        rw [show m + 1 = 1 + m by omega, accH_add 1 m i als, accH_congr (ops := ops) (rf := fun j => if j = i then r else rf' j) (rf' := fun _ => r) 1 i als (fun j h5 h6 => by
          have : j = i := by omega
          simp [this]), ← h2]
        exact accH_congr m (i + 1) als' fun j h5 _ => hrf j h5
      refine ⟨fun j => if j = i then r else rf' j, tmF, ?_, fun j d h5 h6 h7 h8 => ?_, fun w0 ρ w a0 rec hm hrec ha => ?_⟩
      · rw [hacc]; exact hK
      · by_cases hji : j = i
        · subst hji
          obtain ⟨v, hv⟩ := h3 (by rw [← hal]; exact h7) ⟨d, by rw [← hd]; exact h8⟩
          exact ⟨v, by simp [hv]⟩
        · obtain ⟨v, hv⟩ := hA j d (by omega) (by omega) h7 h8
          exact ⟨v, by simp [hji, hv]⟩
      · obtain ⟨h5, h6⟩ := h4 w0 ρ w _ hm ha
        have hri : rec i = concR ρ r := by have := hrec i (Nat.le_refl _) (by omega); simpa using this
        have ha' : TmAt ρ tm' (aLex ops.toArray rec a0 (i + 1)) := by rw [aLex, hd, hri]; exact h5
        obtain ⟨h7, h8⟩ := hF w0 ρ w a0 rec hm (fun j h9 h10 => by rw [hrec j (by omega) (by omega), hrf j h9]) ha'
        rw [show i + (rest.length + 1) = i + 1 + rest.length by omega]
        refine ⟨h7, fun j o' h9 h10 ho' => ?_⟩
        by_cases hji : j = i
        · subst hji
          rw [hoi] at ho'
          cases ho'
          unfold Fact at h6 ⊢
          simp only [if_true]
          simp only [Nat.sub_self, accH] at h6 ⊢
          exact h6
        · have := h8 j o' (by omega) h10 ho'
          unfold Fact at this ⊢
          rw [hrf j (by omega)]
          have hji2 : j - i = (j - (i + 1)) + 1 := by omega
          rw [hji2, hacc]
          exact this
    rw [evH_cons] at h
    split at h
    · rename_i t x y hisal hop
      split at h
      · rename_i x' hss hty
        obtain ⟨t', y', hop', hg, hdst⟩ := stSlot_spec hss
        unfold evS at h
        obtain ⟨ti, hti, rfl, h'⟩ := lookT_spec h
        clear h
        obtain ⟨yv, h1, hy⟩ := opK_sound h'
        clear h'
        obtain ⟨h2, hc1, hc2⟩ := cellsK_sound h1
        clear h1
        split at h2
        · rename_i hsz
          obtain ⟨h3, k, z0, hk, hlen⟩ := stK_spec h2
          rw [forceL_eq] at h3
          have hTi := hT ti hti
          simp only [Bool.and_eq_true] at hsz
          have e1 := Nat.eq_of_beq_eq_true hsz.1
          have e2 : x < tm.length := Nat.le_of_ble_eq_true hsz.2
          have := combine (.st x yv.cells.toList) _ _ h3 (by simp [accH]) (fun _ hex => by obtain ⟨d, hd'⟩ := hex; rw [hdst] at hd'; cases hd') (fun w0 ρ w a hm ha =>
            ⟨by rw [hdst]; exact ha, ti.t, y, k, z0, hop, hg, hdst, isTmp_ne hty, by rw [ha.size]; exact e2, by simpa [accH] using hk, hlen, fun w => by rw [← e1]; exact hTi.run_size w, hc1 _ (hy ρ a ha).2, by
              rw [(hy ρ a ha).1]; exact hc2 ρ⟩)
          simpa using this
        · exact h2.elim
      · exact h.elim
    · rename_i t hisal hop
      obtain ⟨ti, hti, rfl, h'⟩ := lookT_spec h
      rw [putK_eq, forceL_eq] at h'
      have hTi := hT ti hti
      have hg : o.guard = none := by
        unfold isAl at hisal
        split at hisal
        · assumption
        · cases hisal
      have := combine (.al ti.t ti.zero) _ _ h' (by simp [accH, hd]) (fun hf => by rw [hisal] at hf; cases hf) (fun w0 ρ w a hm ha =>
        ⟨ha.put o.dst (v := undef) (fun v hv => by cases hv), hop, hg, fun w => by
          obtain ⟨z, hz1, hz2⟩ := hTi.run_zero w
          exact ⟨z, hz1, by rw [← hz2]⟩, hTi.zplain⟩)
      simpa using this
    · rename_i hnst hnot
      have hnone : stSlot o = none := by
        cases hss : stSlot o with
        | none => rfl
        | some x =>
          exfalso
          obtain ⟨t, y, hop, hg, hdst⟩ := stSlot_spec hss
          exact hnst t x y (by simp [isAl, hop]) hop
      rcases guardK_spec h with ⟨h', hw⟩ | ⟨h', hw⟩
      · obtain ⟨v, hk, hs⟩ := quietK_sound hT o h'
        rw [putK_eq] at hk
        have := combine (.q v) _ _ hk (by simp [accH]) (fun _ _ => ⟨v, rfl⟩) (fun w0 ρ w a hm ha => by
          obtain ⟨h1, h2⟩ := hs w0 ρ a w ha hm
          exact ⟨ha.put o.dst h2, hnone, .inl ⟨hw ρ a ha, h1⟩⟩)
        simpa using this
      · rw [putK_eq] at h'
        have := combine (.q undef) _ _ h' (by simp [accH]) (fun _ _ => ⟨_, rfl⟩) (fun w0 ρ w a hm ha =>
          ⟨ha.put o.dst (v := undef) (fun v hv => by cases hv), hnone, .inr ⟨hw ρ a ha, rfl⟩⟩)
        simpa using this

def foldPut (ν : Nat → Nat) : List NewVar → Act → Act
  | [], a => a
  | x :: vs, a => foldPut ν vs (a.put x.2.1 (.pointer (some ⟨ν x.1, 0, none⟩)))

theorem foldPut_size {ν : Nat → Nat} : ∀ (vs : List NewVar) (a : Act), (foldPut ν vs a).tmps.size = a.tmps.size
  | [], _ => rfl
  | x :: vs, a => by rw [foldPut, foldPut_size vs, put_size]
theorem foldPut_defers {ν : Nat → Nat} : ∀ (vs : List NewVar) (a : Act), (foldPut ν vs a).defers = a.defers
  | [], _ => rfl
  | x :: vs, a => by rw [foldPut, foldPut_defers vs, put_defers]
theorem foldPut_other {ν : Nat → Nat} {t : Nat} : ∀ (vs : List NewVar) (a : Act), (∀ x ∈ vs, x.2.1 ≠ some t) → (foldPut ν vs a).tmps[t]? = a.tmps[t]?
  | [], _, _ => rfl
  | x :: vs, a, h => by rw [foldPut, foldPut_other vs _ fun y hy => h y (by simp [hy]), put_other _ _ _ _ (h x (by simp))]
theorem foldPut_at {ν : Nat → Nat} {t : Nat} : ∀ (vs : List NewVar) (a : Act), vs.Pairwise (fun x y => x.1 ≠ y.1) → (∀ x ∈ vs, ∀ y ∈ vs, x.2.1 = some t → y.2.1 = some t → x.1 = y.1) → t < a.tmps.size →
    ∀ x ∈ vs, x.2.1 = some t → (foldPut ν vs a).tmps[t]? = some (.pointer (some ⟨ν x.1, 0, none⟩))
  | [], _, _, _, _, x, hx, _ => by cases hx
  | y :: vs, a, hp, hu, ht, x, hx, hxt => by
    rw [foldPut]
    rcases List.mem_cons.1 hx with rfl | hx'
    · rw [foldPut_other vs _ fun z hz hzt => (List.rel_of_pairwise_cons hp hz) (hu x (by simp) z (by simp [hz]) hxt hzt), hxt]
      exact put_same _ _ _ ht
    · exact foldPut_at vs _ (List.pairwise_cons.1 hp).2 (fun x hx y hy => hu x (by simp [hx]) y (by simp [hy])) (by rw [put_size]; exact ht) x hx' hxt

/-- A block that lies there already takes its place in the local memory. -/
theorem MemAt.adopt {w0 : Base} {w : World} {ρ : List Nat} {mem : Mem} (h : MemAt w0 ρ mem w) {b t : Nat} {z : List Value} (hb : w.heap[b]? = some (.cells (z.map (conc0 ρ)).toArray t (0, 0))) (hw : w0.w.heap.size ≤ b) (hn : b ∉ ρ)
    (hz : ∀ v ∈ z, ok0 ρ.length v) : MemAt w0 (ρ ++ [b]) (mem ++ [(z, some t)]) w := by
  have hgk : ∀ k, k < ρ.length → (ρ ++ [b]).getD k 0 = ρ.getD k 0 := fun k hk => by simp [List.getD, List.getElem?_append_left, hk]
  have hgn : (ρ ++ [b]).getD ρ.length 0 = b := getD_new ρ b
  have hmem : ∀ k x, (mem ++ [(z, some t)])[k]? = some x → (k < ρ.length ∧ mem[k]? = some x) ∨ (k = ρ.length ∧ x = (z, some t)) := fun k x hk => by
    by_cases hkl : k < mem.length
    · rw [List.getElem?_append_left hkl] at hk; exact .inl ⟨by rw [h.len]; exact hkl, hk⟩
    · have := getElem?_len hk
      simp at this
      have hke : k = mem.length := by omega
      subst hke
      simp at hk
      exact .inr ⟨h.len.symm, hk.symm⟩
  refine ⟨h.os, h.tape, h.output, h.size, by simp [h.len], fun c hc => ?_, fun i j cs t' hi hj he => ?_, fun c hc hk => h.old c hc hk, fun k cs t' hk => ?_, fun k cs t' hk => ?_, fun k cs hk => ?_, h.lay⟩
  · rcases List.mem_append.1 hc with hc | hc
    · exact h.lt c hc
    · simp at hc; subst hc; exact heap_lt hb
  · have hj' : j < ρ.length + 1 := by simpa using hj
    rcases hmem i _ hi with ⟨h1, h2⟩ | ⟨rfl, _⟩
    · rw [hgk i h1] at he
      by_cases hjl : j < ρ.length
      · rw [hgk j hjl] at he; exact h.inj i j cs t' h2 hjl he
      · have : j = ρ.length := by omega
        subst this
        rw [hgn] at he
        exact absurd (he ▸ getD_mem h1) hn
    · rw [hgn] at he
      by_cases hjl : j < ρ.length
      · rw [hgk j hjl] at he; exact absurd (he ▸ getD_mem hjl) hn
      · omega
  · rcases hmem k _ hk with ⟨h1, h2⟩ | ⟨rfl, _⟩
    · rw [hgk k h1]; exact h.fresh k cs t' h2
    · rw [hgn]; exact .inr hw
  · rcases hmem k _ hk with ⟨h1, h2⟩ | ⟨rfl, h2⟩
    · obtain ⟨h3, h4⟩ := h.own k cs t' h2
      exact ⟨by rw [hgk k h1, map_ext0 h4]; exact h3, fun v hv => ok0_mono (by simp) (h4 v hv)⟩
    · cases h2
      rw [hgn]
      exact ⟨by rw [map_ext0 hz]; exact hb, fun v hv => ok0_mono (by simp) (hz v hv)⟩
  · rcases hmem k _ hk with ⟨h1, h2⟩ | ⟨_, h2⟩
    · intro hne
      obtain ⟨h3, h0, h4, h5⟩ := h.ro k cs h2 hne
      rw [hgk k h1]
      exact ⟨h3, h0, fun i v hv hw => by rw [conc0_ext (h5 v (List.mem_of_getElem? hv))]; exact h4 i v hv hw, fun v hv => ok0_mono (by simp) (h5 v hv)⟩
    · cases h2

theorem finK_sound {w0 : Base} {w : World} {ν : Nat → Nat} : ∀ (vs : List NewVar) {tm : List Value} {mem : Mem} {K : List Value → Mem → Prop}, finK vs tm mem K → ∀ {ρ : List Nat} {a : Act}, TmAt ρ tm a → MemAt w0 ρ mem w →
    (∀ x ∈ vs, w.heap[ν x.1]? = some (.cells (x.2.2.2.map (conc0 ρ)).toArray x.2.2.1 (0, 0)) ∧ w0.w.heap.size ≤ ν x.1 ∧ ν x.1 ∉ ρ ∧ ∀ v ∈ x.2.2.2, ok0 ρ.length v) → vs.Pairwise (fun x y => ν x.1 ≠ ν y.1) →
    ∃ σ tm' mem', K tm' mem' ∧ TmAt (ρ ++ σ) tm' (foldPut ν vs a) ∧ MemAt w0 (ρ ++ σ) mem' w
  | [], tm, mem, K, h, ρ, a, ha, hm, _, _ => ⟨[], tm, mem, h, by rw [List.append_nil]; exact ha, by rw [List.append_nil]; exact hm⟩
  | x :: vs, tm, mem, K, h, ρ, a, ha, hm, hx, hp => by
    obtain ⟨i, d, t, z⟩ := x
    unfold finK at h
    rw [numK_eq, putK_eq, forceL_eq] at h
    obtain ⟨h1, h2, h3, h4⟩ := hx (i, d, t, z) (by simp)
    have hm' := hm.adopt h1 h2 h3 h4
    have hv : ok2 (ρ ++ [ν i]).length (.pointer (some ⟨mem.length, 0, none⟩)) := by simp [ok2, ok1, ok0, hm.len]
    have ha' := (ha.ext [ν i]).put d hv
    have hcv : conc (ρ ++ [ν i]) (.pointer (some ⟨mem.length, 0, none⟩)) = .pointer (some ⟨ν i, 0, none⟩) := by
      simp only [conc, conc1, conc0, cAddr, ← hm.len, getD_new]
    rw [hcv] at ha'
    obtain ⟨σ, tm', mem', hk, ha'', hm''⟩ := finK_sound vs h ha' hm' (fun y hy => by
      obtain ⟨g1, g2, g3, g4⟩ := hx y (by simp [hy])
      refine ⟨by rw [map_ext0 g4]; exact g1, g2, fun hmem => ?_, fun v hv => ok0_mono (by simp) (g4 v hv)⟩
      rcases List.mem_append.1 hmem with hmem | hmem
      · exact g3 hmem
      · simp at hmem
        exact (List.rel_of_pairwise_cons hp hy) hmem.symm) (List.pairwise_cons.1 hp).2
    refine ⟨[ν i] ++ σ, tm', mem', hk, ?_, ?_⟩
    · rw [← List.append_assoc]; exact ha''
    · rw [← List.append_assoc]; exact hm''

theorem act_eq {a b : Act} (h1 : a.defers = b.defers) (h2 : ∀ t : Nat, a.tmps[t]? = b.tmps[t]?) : a = b := by
  cases a; cases b
  simp only at h1 h2
  subst h1
  congr
  exact Array.ext_getElem? h2

theorem MemAt.updNew {w0 : Base} {w : World} {ρ : List Nat} {mem : Mem} (h : MemAt w0 ρ mem w) {b : Nat} {o : Obj} (hb : w0.w.heap.size ≤ b) (hn : b ∉ ρ) : MemAt w0 ρ mem (upd w b o) := by
  have hsz : (upd w b o).heap.size = w.heap.size := by simp [upd]
  have hk : ∀ k, k ≠ b → (upd w b o).heap[k]? = w.heap[k]? := fun k hk => by
    unfold upd
    simp only [Array.getElem?_setIfInBounds]
    rw [if_neg (fun e => hk e.symm)]
  exact { lay := h.lay, os := h.os, tape := h.tape, output := h.output, size := by rw [hsz]; exact h.size, len := h.len, lt := fun c hc => by rw [hsz]; exact h.lt c hc, inj := h.inj
          old := fun c hc hne => by rw [hk c (by omega)]; exact h.old c hc hne
          fresh := h.fresh
          own := fun k cs t hkk => by
            obtain ⟨h1, h2⟩ := h.own k cs t hkk
            have hkl : k < ρ.length := by rw [h.len]; exact getElem?_len hkk
            rw [hk _ (fun e => hn (e ▸ getD_mem hkl))]
            exact ⟨h1, h2⟩
          ro := h.ro }

theorem Oper.wp_congrQ {o : Oper} {a : Act} {w : World} {K : Act → World → Prop} {Q Q' : Exit → Act → World → Prop} (h : ∀ e a w, e ≠ .normal → Q' e a w → Q e a w) (hh : o.wp P a w K Q') : o.wp P a w K Q := by
  unfold Oper.wp at *
  generalize (execOp a.eval o).run P w = r at *
  cases r with
  | ok n w' =>
    cases n <;> simp only [Oper.upon] at hh ⊢ <;>
      first
        | exact hh
        | exact Calls.mono hh (fun e w'' he => by
            cases e
            · exact he
            · exact h _ _ _ (by simp) he
            · obtain ⟨a', w3, h'⟩ := he; exact ⟨a', w3, h _ _ _ (by simp) h'⟩)
  | halt x w' => cases x <;> simp only [Oper.upon] at hh ⊢ <;> first | exact h _ _ _ (by simp) hh | exact hh

theorem headListed_set {s m : Nat} (h : s < m) : (headListed s m).setIfInBounds s true = headListed (s + 1) m := by
  apply Array.ext_getElem?
  intro j
  rw [Array.getElem?_setIfInBounds]
  by_cases hj : j < m
  · have e1 : ∀ k, (headListed k m)[j]? = some (decide (j < k)) := fun k => by simp [headListed, hj]
    by_cases hjs : s = j
    · subst hjs
      rw [if_pos rfl, e1, if_pos (by simp [headListed, hj])]
      simp
    · rw [if_neg hjs, e1, e1]
      congr 1
      simp only [decide_eq_decide]
      omega
  · have e1 : ∀ k, (headListed k m)[j]? = none := fun k => by rw [Array.getElem?_eq_none]; simp [headListed]; omega
    rw [if_neg (by omega), e1, e1]

theorem headListed_at {k m i : Nat} (h : i < m) (b : Bool) : (headListed k m).getD i b = decide (i < k) := by simp [headListed, h]
theorem headListed_inv {ops : Array Oper} (hb : backB ops = true) {s n : Nat} (hsn : s ≤ n) (hn : n ≤ ops.size) : HeadInv .any ops n (headListed s ops.size) := by
  refine ⟨by simp [headListed], fun j oj hj hl e he hbe => ?_, fun t ht htl => ?_⟩
  · have hjs : j < ops.size := (Array.getElem?_eq_some_iff.1 hj).1
    rw [headListed_at hjs] at hl
    have := backB_spec hb j oj hj e he hbe
    have hl' := of_decide_eq_true hl
    rw [headListed_at (by omega)]
    exact decide_eq_true (by omega)
  · rw [headListed_at htl]
    exact decide_eq_false (by omega)
theorem ready_end {ops : Array Oper} : Region.ready .any ops (headListed ops.size ops.size) = [] := by
  apply List.eq_nil_iff_forall_not_mem.2
  intro i hi
  obtain ⟨hun, o, ho, _⟩ := mem_ready.1 hi
  have hlt : i < ops.size := (Array.getElem?_eq_some_iff.1 ho).1
  rw [headListed_at hlt] at hun
  simp [hlt] at hun

/-- What lies in the slot of operation j. -/
def held (ops : Array Oper) (a : Act) (j : Nat) : Value := match dstAt ops j with
  | some d => a.tmps.getD d undef
  | none => undef

theorem aLex_self {ops : Array Oper} {rec : Nat → HR} {a : Act} : ∀ s, (∀ j, j < s → rec j = .q (held ops a j)) → aLex ops rec a s = a
  | 0, _ => rfl
  | s + 1, h => by
    rw [aLex, aLex_self s fun j hj => h j (by omega), h s (by omega)]
    unfold held HR.val
    cases hd : dstAt ops s with
    | none => rfl
    | some d =>
      simp only [Act.put]
      cases a with
      | mk tmps defers =>
        simp only
        congr 1
        apply Array.ext_getElem?
        intro t
        rw [Array.getElem?_setIfInBounds]
        by_cases hdt : d = t
        · subst hdt
          rw [if_pos rfl]
          by_cases hlt : d < tmps.size
          · rw [if_pos hlt]; simp [hlt]
          · rw [if_neg hlt, Array.getElem?_eq_none (by omega)]
        · rw [if_neg hdt]

theorem headK_sound (hT : T.Ok P) {ops : List Oper} {s n : Nat} (hb : backB ops.toArray = true) (hchk : headChk ops.toArray s n = true) {tm : List Value} {mem : Mem} {K : List Value → Mem → Prop}
    (hH : evH P T ops ((ops.drop s).take (n - s)) s tm mem [] fun tm' als => finK als tm' mem K)
    {w0 : Base} {ρ : List Nat} {w : World} {a0 : Act} (ha : TmAt ρ tm a0) (hm : MemAt w0 ρ mem w) {Q : Exit → Act → World → Prop}
    (hQ : ∀ σ tm' mem' a' w', K tm' mem' → TmAt (ρ ++ σ) tm' a' → MemAt w0 (ρ ++ σ) mem' w' → wpAny P .any ops.toArray Q (ops.toArray.size - n) (headListed n ops.toArray.size) a' w') :
    wpAny P .any ops.toArray Q (ops.toArray.size - s) (headListed s ops.toArray.size) a0 w := by
  obtain ⟨hc, hsn⟩ := headChk_spec hb hchk
  have hle : n ≤ ops.length := by simpa using hc.le
  have hsz : ops.toArray.size = ops.length := by simp
  have htl : ((ops.drop s).take (n - s)).length = n - s := by simp; omega
  obtain ⟨rf0, tmF, hK, hA0, hF0⟩ := evH_sound hT ((ops.drop s).take (n - s)) s hH (fun j hj => by
    have hj' : j < n - s := by omega
    simp [hj', List.getElem?_drop])
  rw [htl] at hK hA0 hF0
  rw [show s + (n - s) = n by omega] at hA0 hF0
  -- the records from 0 on
  generalize hrf : (fun j => if j < s then HR.q (held ops.toArray a0 j) else rf0 j) = rf
  generalize hrec : (fun j => if j < s then HR.q (held ops.toArray a0 j) else concR ρ (rf0 j)) = rec
  have hrfs : ∀ j, j < s → rf j = .q (held ops.toArray a0 j) := fun j hj => by rw [← hrf]; simp [hj]
  have hrf0 : ∀ j, s ≤ j → rf j = rf0 j := fun j hj => by rw [← hrf]; simp; omega
  have hrecs : ∀ j, j < s → rec j = .q (held ops.toArray a0 j) := fun j hj => by rw [← hrec]; simp [hj]
  have hrec0 : ∀ j, s ≤ j → rec j = concR ρ (rf j) := fun j hj => by rw [hrf0 j hj, ← hrec]; simp; omega
  have hlexs := aLex_self (ops := ops.toArray) (rec := rec) (a := a0) s hrecs
  have hacc0 : accH ops rf0 [] s (n - s) = accH ops rf [] 0 n := by
    have hpre : ∀ m, m ≤ s → accH ops rf [] 0 m = [] := by
      intro m
      induction m with
      | zero => intro _; rfl
      | succ m ih =>
        intro hm'
        rw [accH_add m 1, ih (by omega)]
        unfold accH
        rw [Nat.zero_add, hrfs m (by omega)]
        rfl
    have e1 : n = s + (n - s) := by omega
    conv => rhs; rw [e1]
    rw [accH_add, hpre s (Nat.le_refl _), Nat.zero_add]
    exact accH_congr _ _ _ fun j h1 _ => (hrf0 j h1).symm
  have haccj : ∀ j, s ≤ j → accH ops rf0 [] s (j - s) = accH ops rf [] 0 j := fun j hj => by
    have hpre : ∀ m, m ≤ s → accH ops rf [] 0 m = [] := by
      intro m
      induction m with
      | zero => intro _; rfl
      | succ m ih =>
        intro hm'
        rw [accH_add m 1, ih (by omega)]
        unfold accH
        rw [Nat.zero_add, hrfs m (by omega)]
        rfl
    have e1 : j = s + (j - s) := by omega
    conv => rhs; rw [e1]
    rw [accH_add, hpre s (Nat.le_refl _), Nat.zero_add]
    exact accH_congr _ _ _ fun j h1 _ => (hrf0 j h1).symm
  rw [hacc0] at hK
  obtain ⟨haF, hfacts0⟩ := hF0 w0 ρ w a0 rec hm (fun j h1 _ => by rw [hrec0 j h1, hrf0 j h1]) (by rw [hlexs]; exact ha)
  have hfacts : ∀ j o, s ≤ j → j < n → ops[j]? = some o → Fact P ops w0 ρ mem rf [] 0 (aLex ops.toArray rec a0) j o := fun j o h1 h2 h3 => by
    have := hfacts0 j o h1 h2 h3
    unfold Fact at this ⊢
    rw [hrf0 j h1, Nat.sub_zero]
    rw [haccj j h1] at this
    exact this
  have hA : ∀ j d, j < n → alAt ops.toArray j = false → dstAt ops.toArray j = some d → ∃ v, rf j = .q v := fun j d h1 h2 h3 => by
    by_cases hjs : j < s
    · exact ⟨_, hrfs j hjs⟩
    · rw [hrf0 j (by omega)]; exact hA0 j d (by omega) h1 h2 h3
  have hop : ∀ (i : Nat) (o : Oper), ops.toArray[i]? = some o → ops[i]? = some o := fun i o ho => by simpa using ho
  have hops : ∀ i, i < n → ∃ o, ops[i]? = some o := fun i hi => by
    have hlt : i < ops.length := by omega
    exact ⟨ops[i], by simp [hlt]⟩
  have hss : ∀ j x z, rf j = .st x z → s ≤ j := fun j x z h => by
    rcases Nat.lt_or_ge j s with h' | h'
    · rw [hrfs j h'] at h; cases h
    · exact h'
  have hsl : ∀ j t z, rf j = .al t z → s ≤ j := fun j t z h => by
    rcases Nat.lt_or_ge j s with h' | h'
    · rw [hrfs j h'] at h; cases h
    · exact h'
  have hsa : ∀ j x z, j < n → rf j = .st x z → stAt ops.toArray j = some x := fun j x z hj hr => by
    obtain ⟨o, ho⟩ := hops j hj
    have := hfacts j o (hss j x z hr) hj ho
    unfold Fact at this
    rw [hr] at this
    obtain ⟨t, y, k, z0, h1, h2, h3, _⟩ := this
    simp [stAt, ho, stSlot, h1, h2, h3]
  have hus : ∀ j k x z z', j < n → k < n → rf j = .st x z → rf k = .st x z' → j = k := fun j k x z z' hj hk h1 h2 => by
    obtain ⟨_, _, _, _, _, _, hu⟩ := hc.st j x (hss j x z h1) hj (hsa j x z hj h1)
    exact (hu k (hss k x z' h2) hk (hsa k x z' hk h2)).symm
  have hstm : ∀ m, m ≤ n → ∀ j x z, j < m → rf j = .st x z → ∃ i t z0, i < j ∧ dstAt ops.toArray i = some x ∧ rf i = .al t z0 := by
    intro m
    induction m with
    | zero => intro _ j _ _ hj; omega
    | succ m ih =>
      intro hm' j x z hj hr
      by_cases hjm : j < m
      · exact ih (by omega) j x z hjm hr
      · have hjm' : j = m := by omega
        subst hjm'
        have hacc := accOk (ops := ops) (rf := rf) (m := j) (fun i k d hi hk => hc.uniq i k d (by omega) (by omega)) (ih (by omega)) (fun i k x z z' hi hk => hus i k x z z' (by omega) (by omega)) j (Nat.le_refl _)
        obtain ⟨o, ho⟩ := hops j (by omega)
        have := hfacts j o (hss j x z hr) (by omega) ho
        unfold Fact at this
        rw [hr] at this
        obtain ⟨t, y, k, z0, _, _, _, _, _, hk, _⟩ := this
        rw [Nat.sub_zero] at hk
        obtain ⟨g1, g2, z1, g3⟩ := hacc.mem _ hk
        exact ⟨k, t, z1, g1, g2.symm, g3⟩
  have hacc := accOk (ops := ops) (rf := rf) (m := n) (fun i k d hi hk => hc.uniq i k d hi hk) (hstm n (Nat.le_refl _)) hus
  have hnoq : ∀ j v, rec j = .q v → s ≤ j → ∃ u, rf j = .q u ∧ v = conc ρ u := fun j v hr hs => by
    rw [hrec0 j hs] at hr
    cases hri : rf j with
    | q u => rw [hri] at hr; cases hr; exact ⟨u, rfl, rfl⟩
    | al t z => rw [hri] at hr; cases hr
    | st x z => rw [hri] at hr; cases hr
  have hnoal : ∀ j t z, rec j = .al t z → s ≤ j ∧ rf j = .al t z := fun j t z hr => by
    rcases Nat.lt_or_ge j s with h' | h'
    · rw [hrecs j h'] at hr; cases hr
    · rw [hrec0 j h'] at hr
      cases hri : rf j with
      | q u => rw [hri] at hr; cases hr
      | al t z => rw [hri] at hr; cases hr; exact ⟨h', rfl⟩
      | st x z => rw [hri] at hr; cases hr
  have hnost : ∀ j x z, rec j = .st x z → s ≤ j ∧ ∃ z', rf j = .st x z' ∧ z = z'.map (conc0 ρ) := fun j x z hr => by
    rcases Nat.lt_or_ge j s with h' | h'
    · rw [hrecs j h'] at hr; cases hr
    · rw [hrec0 j h'] at hr
      cases hri : rf j with
      | q u => rw [hri] at hr; cases hr
      | al t z => rw [hri] at hr; cases hr
      | st x z' => rw [hri] at hr; cases hr; exact ⟨h', z', rfl, rfl⟩
  have hal : ∀ j t z, rf j = .al t z → rec j = .al t z := fun j t z h => by rw [hrec0 j (hsl j t z h), h]; rfl
  have hstc : ∀ j x z, rf j = .st x z → rec j = .st x (z.map (conc0 ρ)) := fun j x z h => by rw [hrec0 j (hss j x z h), h]; rfl
  have main := head_any (P := P) (ops := ops.toArray) (rec := rec) (a0 := a0) (s := s) (n := n) (als := alAt ops.toArray) hc
    (fun i d hi hal hd => by
      obtain ⟨v, hv⟩ := hA i d hi hal hd
      by_cases his : i < s
      · exact ⟨_, hrecs i his⟩
      · exact ⟨conc ρ v, by rw [hrec0 i (by omega), hv]; rfl⟩)
    (fun i hi => ⟨_, hrecs i hi⟩)
    (Cl := MemAt w0 ρ mem) (B := w0.w.heap.size) (ρ := ρ) (Q := Q)
    (fun w w' h1 h2 => h1.below h2)
    (fun w h1 => ⟨h1.size, fun hin => by have := h1.lt _ hin; omega⟩)
    (fun i o v hs hi ho hr => by
      obtain ⟨u, hu, rfl⟩ := hnoq i v hr hs
      have := hfacts i o hs hi (hop i o ho)
      unfold Fact at this
      rw [hu] at this
      exact this.2)
    (fun i v hs hi hr t hst => by
      obtain ⟨u, hu, rfl⟩ := hnoq i v hr hs
      obtain ⟨o, ho⟩ := hops i hi
      have := hfacts i o hs hi ho
      unfold Fact at this
      rw [hu] at this
      simp [stAt, ho, this.1] at hst)
    (fun i o t z hs hi ho hr => by
      obtain ⟨_, hri⟩ := hnoal i t z hr
      have := hfacts i o hs hi (hop i o ho)
      unfold Fact at this
      rw [hri] at this
      exact ⟨this.1, this.2.1, this.2.2.1⟩)
    (fun j o x z hj ho hr => by
      obtain ⟨hs, z', hri, rfl⟩ := hnost j x z hr
      have hf := hfacts j o hs hj (hop j o ho)
      unfold Fact at hf
      rw [hri] at hf
      obtain ⟨t, y, k, z0, h1, h2, h3, h4, hxs, hk, h5, h6, h7, h8⟩ := hf
      rw [aLex_size] at hxs
      rw [Nat.sub_zero] at hk
      have hA := hacc j (by omega)
      obtain ⟨g1, g2, z1, g3⟩ := hA.mem _ hk
      have hz : z0 = z1 := by
        rcases hA.fin _ hk z1 g3 with ⟨j', x'', g4, g5, g6⟩ | ⟨_, g4⟩
        · simp only at g6
          cases g6
          have := hus j j' x z' _ hj (by omega) hri g5
          omega
        · exact g4
      refine ⟨hs, t, y, k, z1, h1, h2, h3, h4, hxs, by simp only at g1; omega, g2.symm, hal k t z1 g3, by rw [List.length_map, h5, hz], fun w => by rw [← hz, ← h5]; exact h6 w, fun v hv => ?_, h8⟩
      obtain ⟨u, hu, rfl⟩ := List.mem_map.1 hv
      exact oneCell_ok0 (h7 u hu))
    (fun w b o h1 h2 h3 => h1.updNew h2 h3)
    (fun a w1 ν inv => ?_)
    (n - s) (headListed s ops.toArray.size) a0 w (fun _ => 0)
    ⟨rfl, rfl, fun i d hi hl hd hlt => by
        rw [headListed_at (by omega)] at hl
        have his := of_decide_eq_true hl
        simp only [cv, hrecs i his, held, hd]
        simp [hlt], fun _ _ => rfl, hm, fun i t z hi hl hr => by
        rw [headListed_at (by omega)] at hl
        have his := of_decide_eq_true hl
        have := (hnoal i t z hr).1
        omega, fun i j t z t' z' hi hj hl _ hr _ _ => by
        rw [headListed_at (by omega)] at hl
        have his := of_decide_eq_true hl
        have := (hnoal i t z hr).1
        omega⟩
    (headListed_inv hb hsn (by omega))
    (fun i hi => by rw [headListed_at (by omega)]; exact decide_eq_true hi)
    (by
      have : ∀ k, k ≤ n → cnt (headListed s ops.toArray.size) k = k - s := by
        intro k
        induction k with
        | zero => intro _; simp [cnt]
        | succ k ih =>
          intro hk
          rw [cnt, ih (by omega), headListed_at (by omega)]
          by_cases hks : k < s
          · rw [decide_eq_true hks]; simp; omega
          · rw [decide_eq_false hks]; simp; omega
      exact this n (Nat.le_refl _))
  · have e1 : n - s + (ops.toArray.size - n) = ops.toArray.size - s := by omega
    rw [e1] at main
    exact main
  · -- behind the head
    have hAn := hacc n (Nat.le_refl _)
    generalize hals : accH ops rf [] 0 n = als at hK hAn
    have hlist : ∀ i, i < n → (headListed n ops.toArray.size).getD i true = true := fun i hi => by
      rw [headListed_at (by omega)]; exact decide_eq_true hi
    have hne : als.Pairwise fun x y => x.1 ≠ y.1 := hAn.sorted.imp fun h => by omega
    have hact : a = foldPut ν als (aLex ops.toArray rec a0 n) := by
      have huniq : ∀ t, ∀ x ∈ als, ∀ y ∈ als, x.2.1 = some t → y.2.1 = some t → x.1 = y.1 := fun t x hx y hy hxt hyt => by
        obtain ⟨h1, h2, _⟩ := hAn.mem x hx
        obtain ⟨h3, h4, _⟩ := hAn.mem y hy
        exact hc.uniq x.1 y.1 t h1 h3 (by rw [← h2]; exact hxt) (by rw [← h4]; exact hyt)
      refine act_eq ?_ fun t => ?_
      · rw [inv.defers, foldPut_defers, haF.defers, ha.defers]
      · by_cases hlt : t < a0.tmps.size
        · by_cases hx : ∃ i, i < n ∧ dstAt ops.toArray i = some t
          · obtain ⟨i, hi, hd⟩ := hx
            rw [inv.at_ i t hi (hlist i hi) hd hlt]
            have hnone : (∀ ty z, rf i ≠ .al ty z) → ∀ x ∈ als, x.2.1 ≠ some t := fun hna x hx hxt => by
              obtain ⟨h1, h2, z0, h3⟩ := hAn.mem x hx
              have := hc.uniq x.1 i t h1 hi (by rw [← h2]; exact hxt) hd
              rw [this] at h3
              exact hna _ _ h3
            cases hri : rec i with
            | al ty z =>
              obtain ⟨z', hin⟩ := hAn.has i ty z hi (hnoal i ty z hri).2
              rw [foldPut_at _ _ hne (huniq t) (by rw [aLex_size]; exact hlt) _ hin hd]
              simp [cv, hri]
            | q v =>
              rw [foldPut_other _ _ (hnone fun ty z h => by rw [hal i ty z h] at hri; cases hri), aLex_at hc n (Nat.le_refl _) i t hi hd hlt]
              simp [cv, hri, HR.val]
            | st x z =>
              rw [foldPut_other _ _ (hnone fun ty z h => by rw [hal i ty z h] at hri; cases hri), aLex_at hc n (Nat.le_refl _) i t hi hd hlt]
              simp [cv, hri, HR.val]
          · have hx' : ∀ i, i < n → dstAt ops.toArray i ≠ some t := fun i hi hd => hx ⟨i, hi, hd⟩
            rw [inv.other t fun i hi _ => hx' i hi, foldPut_other _ _ fun x hx hxt => ?_, aLex_other n t fun i hi => hx' i hi]
            obtain ⟨h1, h2, _⟩ := hAn.mem x hx
            exact hx' x.1 h1 (by rw [← h2]; exact hxt)
        · rw [Array.getElem?_eq_none (by rw [inv.size]; omega), Array.getElem?_eq_none (by rw [foldPut_size, aLex_size]; omega)]
    obtain ⟨σ, tm', mem', hk, ha', hm'⟩ := finK_sound (w0 := w0) (w := w1) (ν := ν) als hK haF inv.cl
      (fun e he => by
        obtain ⟨h1, h2, z0, h3⟩ := hAn.mem e he
        obtain ⟨zz, h4, _, h5, h6, h7, h8⟩ := inv.blk e.1 e.2.2.1 z0 h1 (hlist _ h1) (hal _ _ _ h3)
        rcases hAn.fin e he z0 h3 with ⟨j, x, g1, g2, g3⟩ | ⟨g1, g2⟩
        · have hzz := h7 j x (e.2.2.2.map (conc0 ρ)) g1 (hlist j g1) (hstc j x _ g2) (by rw [← h2]; exact g3)
          obtain ⟨o, ho⟩ := hops j g1
          have hf := hfacts j o (hss j x _ g2) g1 ho
          unfold Fact at hf
          rw [g2] at hf
          obtain ⟨_, _, _, _, _, _, _, _, _, _, _, _, g4, _⟩ := hf
          exact ⟨by rw [h4, hzz], h5, h6, g4⟩
        · have hzz := h8 fun j x z' hj hlj hrj hdj => by
            obtain ⟨_, z'', hri, _⟩ := hnost j x z' hrj
            exact g1 j x z'' hj hri (by rw [h2]; exact hdj)
          obtain ⟨o, ho⟩ := hops e.1 h1
          have hf := hfacts e.1 o (hsl _ _ _ h3) h1 ho
          unfold Fact at hf
          rw [h3] at hf
          have hpl := hf.2.2.2
          rw [g2]
          refine ⟨by rw [h4, hzz, map_plain fun v hv => (plain0_ok (allL_spec hpl v hv) 0 ρ).2], h5, h6, fun v hv => (plain0_ok (allL_spec hpl v hv) _ []).1⟩)
      (by
        refine hne.imp_of_mem fun {x y} hx hy hxy he => ?_
        obtain ⟨h1, _, z1, h3⟩ := hAn.mem x hx
        obtain ⟨h4, _, z2, h6⟩ := hAn.mem y hy
        exact hxy (inv.inj x.1 y.1 x.2.2.1 z1 y.2.2.1 z2 h1 h4 (hlist _ h1) (hlist _ h4) (hal _ _ _ h3) (hal _ _ _ h6) he))
    rw [← hact] at ha'
    exact hQ σ tm' mem' a w1 hk ha' hm'

theorem planK_sound (hT : T.Ok P) {ops : List Oper} (hb : backB ops.toArray = true) : ∀ (plan : List (Nat × Bool)) (s : Nat), planChk ops.toArray s plan = true → ∀ {tm : List Value} {mem : Mem} {K : List Value → Mem → Prop}, planK P T ops s plan tm mem K →
    ∀ {w0 : Base} {ρ : List Nat} {w : World} {a0 : Act}, TmAt ρ tm a0 → MemAt w0 ρ mem w → ∀ {Q : Exit → Act → World → Prop},
    (∀ σ tm' mem' a' w', K tm' mem' → TmAt (ρ ++ σ) tm' a' → MemAt w0 (ρ ++ σ) mem' w' → Q .normal a' w') →
    wpAny P .any ops.toArray Q (ops.toArray.size - s) (headListed s ops.toArray.size) a0 w
  | [], s, hc, tm, mem, K, h, w0, ρ, w, a0, ha, hm, Q, hQ => by
    have hs : s = ops.toArray.size := of_decide_eq_true hc
    subst hs
    rw [Nat.sub_self]
    exact ⟨ready_end, hQ [] tm mem a0 w h (by rw [List.append_nil]; exact ha) (by rw [List.append_nil]; exact hm)⟩
  | (n, true) :: cs, s, hc, tm, mem, K, h, w0, ρ, w, a0, ha, hm, Q, hQ => by
    simp only [planChk, Bool.and_eq_true] at hc
    rw [planK_t] at h
    refine headK_sound hT hb hc.1 h ha hm fun σ tm' mem' a' w' hk ha' hm' => ?_
    refine planK_sound hT hb cs n hc.2 hk ha' hm' fun σ' tm'' mem'' a'' w'' hk' ha'' hm'' => ?_
    rw [List.append_assoc] at ha'' hm''
    exact hQ (σ ++ σ') _ _ _ _ hk' ha'' hm''
  | (n, false) :: cs, s, hc, tm, mem, K, h, w0, ρ, w, a0, ha, hm, Q, hQ => by
    simp only [planChk, Bool.and_eq_true] at hc
    obtain ⟨⟨⟨h1, h2⟩, h3⟩, h4⟩ := hc
    have hn : n = s + 1 := of_decide_eq_true h1
    have hle : n ≤ ops.toArray.size := of_decide_eq_true h2
    have hready := of_decide_eq_true h3
    subst hn
    have hlt : s < ops.length := by
      have : s + 1 ≤ ops.length := by simpa using hle
      omega
    have htk : (ops.drop s).take 1 = [ops[s]] := by
      rw [List.drop_eq_getElem_cons hlt]; rfl
    rw [planK_f, htk] at h
    have hstep := evOps_sound hT [ops[s]] h ha hm (Q := fun e a w => match e with
      | .normal => wpAny P .any ops.toArray Q (ops.toArray.size - (s + 1)) (headListed (s + 1) ops.toArray.size) a w
      | e => Q e a w) (fun σ tm' mem' a' w' hk ha' hm' => planK_sound hT hb cs (s + 1) h4 hk ha' hm' fun σ' tm'' mem'' a'' w'' hk' ha'' hm'' => by
        rw [List.append_assoc] at ha'' hm''
        exact hQ (σ ++ σ') _ _ _ _ hk' ha'' hm'')
    rw [show ops.toArray.size - s = (ops.toArray.size - (s + 1)) + 1 by omega]
    refine ⟨fun h0 => (by rw [hready] at h0; cases h0), fun i hi => ?_⟩
    rw [hready] at hi
    have his : i = s := by simpa using hi
    subst his
    unfold wpOp
    have ho : ops.toArray[i]? = some ops[i] := by simp [hlt]
    rw [ho]
    rw [headListed_set (by omega)]
    simp only [wpList] at hstep
    simp only
    split
    · rename_i hw
      rw [if_pos hw] at hstep
      rcases hstep with hstep | ⟨h5, a', w', h6⟩
      · exact .inl (Oper.wp_congrQ (fun e a w hne hq => by cases e <;> first | exact absurd rfl hne | exact hq) hstep)
      · exact .inr ⟨h5, a', w', h6⟩
    · rename_i hw
      rw [if_neg hw] at hstep
      exact hstep

theorem drawK_sound (hT : T.Ok P) (hmix : P.follows .mixedOrders = true) {id : Nat} {ops : List Oper} {tm : List Value} {mem : Mem} {K : List Value → Mem → Prop} (h : DrawK P T ops tm mem K)
    {w0 : Base} {ρ : List Nat} {w : World} {a0 : Act} (ha : TmAt ρ tm a0) (hm : MemAt w0 ρ mem w) {Q : Exit → Act → World → Prop}
    (hQ : ∀ σ tm' mem' a' w', K tm' mem' → TmAt (ρ ++ σ) tm' a' → MemAt w0 (ρ ++ σ) mem' w' → Q .normal a' w') : (Code.region id ops.toArray true).wp P Q a0 w := by
  rcases h.ex with ⟨plan, hb, hchk, hH⟩ | ⟨p, hchk, hH⟩
  case inr =>
    simp only [Bool.and_eq_true, decide_eq_true_eq] at hchk
    have := pt_sound hT p _ 0 _ _ hchk.2 hH ha (hm.drew (w.drawn + 1)) (Q := Q) fun σ tm' mem' a' w' hk ha' hm' => by
      have hq : noPan Q .normal a' w' := hQ σ tm' mem' a' w' hk ha' hm'
      exact ⟨hchk.1, hq⟩
    exact Code.wp_mono noPan_imp (wp_region_any hmix this)
  refine wp_region_any hmix ?_
  have := planK_sound hT hb plan 0 hchk hH ha (hm.drew (w.drawn + 1)) hQ
  rw [Nat.sub_zero] at this
  have e1 : headListed 0 ops.toArray.size = Array.replicate ops.toArray.size false := by
    apply Array.ext_getElem?
    intro j
    by_cases hj : j < ops.length
    · simp [headListed, hj]
    · simp [headListed, hj]
  rw [e1] at this
  exact this

end
end Go.Ev
