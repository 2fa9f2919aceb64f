/-
  The evaluator, part 2: operations that only read, operations that make or write local memory; each is sound.
  Conditions: none.
-/
import Derived.Test.YtlkbfpklhncfbaaGreatDoorEv
import Derived.WalkLawsBesides
set_option linter.unusedVariables false
set_option linter.unusedSimpArgs false
namespace Go.Ev
open Go.RowKit

def nthV : List Value → Nat → Value
  | [], _ => undef
  | v :: _, 0 => v
  | _ :: l, n + 1 => nthV l n

theorem nthV_eq : ∀ (l : List Value) (n : Nat), nthV l n = l.getD n undef
  | [], n => by simp [nthV]
  | v :: l, 0 => by simp [nthV]
  | v :: l, n + 1 => by simp [nthV, nthV_eq l n]

def memK : Mem → Nat → (Blk → Prop) → Prop
  | [], _, _ => False
  | b :: _, 0, k => k b
  | _ :: m, n + 1, k => memK m n k

theorem memK_spec : ∀ {m : Mem} {n : Nat} {k : Blk → Prop}, memK m n k → ∃ b, m[n]? = some b ∧ k b
  | [], _, _, h => h.elim
  | b :: _, 0, _, h => ⟨b, by simp, h⟩
  | _ :: m, n + 1, _, h => by obtain ⟨b, h1, h2⟩ := memK_spec (m := m) h; exact ⟨b, by simpa using h1, h2⟩

def setM : Mem → Nat → Blk → Mem
  | [], _, _ => []
  | _ :: m, 0, b => b :: m
  | c :: m, n + 1, b => c :: setM m n b

theorem setM_eq : ∀ (m : Mem) (n : Nat) (b : Blk), setM m n b = m.set n b
  | [], _, _ => by simp [setM]
  | _ :: m, 0, b => by simp [setM]
  | c :: m, n + 1, b => by simp [setM, setM_eq m n b]

def wildK (v : Value) (A : Prop) : Prop := match isWild v with
  | true => False
  | false => A
theorem wildK_spec {v : Value} {A : Prop} (h : wildK v A) : isWild v = false ∧ A := by
  unfold wildK at h
  split at h
  · exact h.elim
  · rename_i hw; exact ⟨hw, h⟩

/-- An operand. -/
def opK (tm : List Value) (x : Operand) (k : Value → Prop) : Prop :=
  match x with
  | .tmp t => forceV (nthV tm t) fun v => wildK v (k v)
  | .const v => match plain v with
    | true => forceV v k
    | false => False
  | .func f => k (.func (.func f) #[] #[])
  | .global _ => False

theorem conc_undef (ρ : List Nat) : conc ρ undef = undef := rfl

theorem TmAt.eval {ρ : List Nat} {tm : List Value} {a : Act} (h : TmAt ρ tm a) (t : Nat) (hw : isWild (nthV tm t) = false) : a.eval (.tmp t) = conc ρ (nthV tm t) ∧ ok2 ρ.length (nthV tm t) := by
  rw [nthV_eq] at *
  have e : a.eval (.tmp t) = a.tmps.getD t undef := rfl
  rw [e]
  by_cases ht : t < tm.length
  · have h0 : tm[t]? = some (tm.getD t undef) := by simp [List.getD, ht]
    obtain ⟨h1, h2⟩ := h.get t _ h0 hw
    refine ⟨?_, h2⟩
    have : t < a.tmps.size := by rw [h.size]; exact ht
    rw [Array.getElem?_eq_getElem this] at h1
    simp only [Array.getD, this, dite_true]
    exact Option.some.inj h1
  · have h0 : tm.getD t undef = undef := by simp [List.getD, List.getElem?_eq_none (Nat.le_of_not_lt ht)]
    rw [h0]
    refine ⟨?_, fun v hv => by cases hv⟩
    have : ¬ t < a.tmps.size := by rw [h.size]; exact ht
    simp only [Array.getD, this, dite_false, conc_undef]

theorem opK_sound {tm : List Value} {x : Operand} {k : Value → Prop} (h : opK tm x k) :
    ∃ v, k v ∧ ∀ ρ a, TmAt ρ tm a → a.eval x = conc ρ v ∧ ok2 ρ.length v := by
  cases x with
  | tmp t =>
    simp only [opK, forceV_eq] at h
    obtain ⟨hw, h⟩ := wildK_spec h
    exact ⟨_, h, fun ρ a ha => ha.eval t hw⟩
  | const v =>
    simp only [opK, forceV_eq] at h
    split at h
    · rename_i hp
      exact ⟨v, h, fun ρ a _ => ⟨(plain_ok hp ρ.length ρ).2.symm, (plain_ok hp ρ.length ρ).1⟩⟩
    · exact h.elim
  | func f => exact ⟨_, h, fun ρ a _ => ⟨rfl, fun v hv => by cases hv⟩⟩
  | global g => exact h.elim

def argsK (tm : List Value) : List Operand → (List Value → Prop) → Prop
  | [], k => k []
  | x :: l, k => opK tm x fun v => argsK tm l fun vs => k (v :: vs)

theorem argsK_sound {tm : List Value} : ∀ {l : List Operand} {k : List Value → Prop}, argsK tm l k →
    ∃ vs, k vs ∧ ∀ ρ a, TmAt ρ tm a → l.map a.eval = vs.map (conc ρ) ∧ ∀ v ∈ vs, ok2 ρ.length v
  | [], _, h => ⟨[], h, fun _ _ _ => ⟨rfl, fun _ hv => by cases hv⟩⟩
  | x :: l, k, h => by
    obtain ⟨v, h1, h2⟩ := opK_sound h
    obtain ⟨vs, h3, h4⟩ := argsK_sound h1
    refine ⟨v :: vs, h3, fun ρ a ha => ⟨by rw [List.map_cons, List.map_cons, (h2 ρ a ha).1, (h4 ρ a ha).1], fun u hu => ?_⟩⟩
    rcases List.mem_cons.1 hu with rfl | hu
    · exact (h2 ρ a ha).2
    · exact (h4 ρ a ha).2 u hu

/-! ### What the table gives -/
section
variable {P : Program} {i : TI}

theorem TI.Ok.run_size (h : i.Ok P) (w : World) : (sizeOf i.t).run P w = .ok i.size w := by
  have h1 := h.info
  cases hi : P.info? i.t with
  | none => rw [hi] at h1; cases h1
  | some x =>
    rw [hi] at h1
    simp only [Option.map_some, Option.some.injEq, Prod.mk.injEq] at h1
    simp [sizeOf, typeInfo, hi, h1.2.1]

theorem TI.Ok.run_zero (h : i.Ok P) (w : World) : ∃ z, (zeroValue i.t).run P w = .ok z w ∧ z.cells.toList = i.zero := by
  have h1 := h.info
  cases hi : P.info? i.t with
  | none => rw [hi] at h1; cases h1
  | some x =>
    rw [hi] at h1
    simp only [Option.map_some, Option.some.injEq, Prod.mk.injEq] at h1
    cases hz : x.zero with
    | none => rw [hz] at h1; cases h1.1
    | some z =>
      rw [hz] at h1
      simp only [Option.map_some, Option.some.injEq] at h1
      exact ⟨z, by simp [zeroValue, typeInfo, hi, hz], h1.1⟩

theorem TI.Ok.run_agg (h : i.Ok P) (w : World) : (isAgg i.t).run P w = .ok i.sh.isAgg w := by
  have h1 := h.sh
  cases hs : i.sh with
  | cell =>
    rw [hs] at h1
    simp only [ShOk] at h1
    cases hd : P.underlying i.t with
    | none => rw [hd] at h1; cases h1
    | some d =>
      rw [hd] at h1
      simp only [Option.map_some, Option.some.injEq] at h1
      simp only [isAgg, Sem.run_bind, run_underlying hd, Result.andThen_ok]
      cases d <;> first | rfl | (simp [aggD] at h1; done)
  | int k =>
    rw [hs] at h1
    simp only [isAgg, Sem.run_bind, run_underlying h1, Result.andThen_ok]
    rfl
  | bool =>
    rw [hs] at h1
    simp only [isAgg, Sem.run_bind, run_underlying h1, Result.andThen_ok]
    rfl
  | string =>
    rw [hs] at h1
    simp only [isAgg, Sem.run_bind, run_underlying h1, Result.andThen_ok]
    rfl
  | arr n e es a =>
    rw [hs] at h1
    simp only [isAgg, Sem.run_bind, run_underlying h1.1, Result.andThen_ok]
    rfl
  | str fs =>
    rw [hs] at h1
    obtain ⟨f, h1, _⟩ := h1
    simp only [isAgg, Sem.run_bind, run_underlying h1, Result.andThen_ok]
    rfl
  | slice e es =>
    rw [hs] at h1
    simp only [isAgg, Sem.run_bind, run_underlying h1.1, Result.andThen_ok]
    rfl
end

theorem run_sizeOf_map {P : Program} {e n : Nat} (h : (P.info? e).map (·.size) = some n) (w : World) : (sizeOf e).run P w = .ok n w := by
  cases hi : P.info? e with
  | none => rw [hi] at h; cases h
  | some x => rw [hi] at h; simp at h; simp [sizeOf, typeInfo, hi, h]

theorem run_isAgg_map {P : Program} {e : Nat} {b : Bool} (h : (P.underlying e).map aggD = some b) (w : World) : (isAgg e).run P w = .ok b w := by
  cases hi : P.underlying e with
  | none => rw [hi] at h; cases h
  | some d =>
    rw [hi] at h
    simp only [Option.map_some, Option.some.injEq] at h
    simp only [isAgg, Sem.run_bind, run_underlying hi, Result.andThen_ok]
    cases d <;> first | (subst h; rfl)

/-! ### Cells of the local memory -/

theorem cell?_of_cells {w : World} {b t : Nat} {cs : Array Value} {fz : Nat × Nat} (h : w.heap[b]? = some (.cells cs t fz)) (i : Nat) : w.cell? ⟨b, i, none⟩ = cs[i]? := by
  simp [World.cell?, h]

theorem MemAt.same {w0 : Base} {w : World} {ρ : List Nat} {mem : Mem} (h : MemAt w0 ρ mem w) {k : Nat} {cs : List Value} (hk : mem[k]? = some (cs, none)) (hne : cs ≠ []) :
    w.heap[ρ.getD k 0]? = w0.w.heap[ρ.getD k 0]? := by
  obtain ⟨h1, h0, _, _⟩ := h.ro k cs hk hne
  exact h.old _ h1 h0

theorem MemAt.cell {w0 : Base} {w : World} {ρ : List Nat} {mem : Mem} (h : MemAt w0 ρ mem w) {k : Nat} {b : Blk} (hk : mem[k]? = some b) {i : Nat} {v : Value} (hv : b.1[i]? = some v) (hw : isWild v = false) :
    w.cell? ⟨ρ.getD k 0, i, none⟩ = some (conc0 ρ v) ∧ ok0 ρ.length v := by
  obtain ⟨cs, o⟩ := b
  cases o with
  | some t =>
    obtain ⟨h1, h2⟩ := h.own k cs t hk
    refine ⟨?_, h2 v (List.mem_of_getElem? hv)⟩
    rw [cell?_of_cells h1]
    have hv' : cs[i]? = some v := hv
    simp [hv']
  | none =>
    have hne : cs ≠ [] := fun e => by subst e; have hv' : ([] : List Value)[i]? = some v := hv; simp at hv'
    obtain ⟨h1, _, h2, h3⟩ := h.ro k cs hk hne
    refine ⟨?_, h3 v (List.mem_of_getElem? hv)⟩
    rw [World.cell?_of_block (w := w0.w) (w' := w) (h.same hk hne)]
    exact h2 i v hv hw

/-- Reading of n cells. -/
theorem MemAt.loadCells {P : Program} {w0 : Base} {w : World} {ρ : List Nat} {mem : Mem} (h : MemAt w0 ρ mem w) {k : Nat} {b : Blk} (hk : mem[k]? = some b) {off n : Nat} {l : List Value}
    (hl : List.take n (List.drop off b.1) = l) (hn : l.length = n) (hw : allL (fun v => !isWild v) l = true) :
    (Go.loadCells ⟨ρ.getD k 0, off, none⟩ n).run P w = .ok (l.map (conc0 ρ)).toArray w ∧ ∀ v ∈ l, ok0 ρ.length v := by
  have hg : ∀ j v, l[j]? = some v → b.1[off + j]? = some v := fun j v hj => by
    subst hl
    have hjn : j < n := by have := getElem?_len hj; simp at this; omega
    simpa [List.getElem?_take, hjn, List.getElem?_drop] using hj
  have hnw : ∀ v ∈ l, isWild v = false := fun v hv => by have := allL_spec hw v hv; simpa using this
  constructor
  · have := run_loadCells_list (P := P) w ⟨ρ.getD k 0, off, none⟩ (l.map (conc0 ρ)) (fun j v hj => by
      rw [List.getElem?_map] at hj
      cases hu : l[j]? with
      | none => rw [hu] at hj; cases hj
      | some u =>
        rw [hu] at hj
        simp at hj
        subst hj
        rw [Addr.add_lit]
        exact (h.cell hk (hg j u hu) (hnw u (List.mem_of_getElem? hu))).1)
    rw [List.length_map, hn] at this
    exact this
  · intro v hv
    obtain ⟨j, hj⟩ := List.getElem?_of_mem hv
    exact (h.cell hk (hg j v hj) (hnw v hv)).2

/-! ## Operations that only read -/

def cellsK (v : Value) (k : List Value → Prop) : Prop :=
  match v with
  | .agg cs => forceL cs.toList k
  | .tuple _ => False
  | v => k [v]

theorem cellsK_sound {v : Value} {k : List Value → Prop} (h : cellsK v k) :
    k v.cells.toList ∧ (∀ n, ok2 n v → ∀ c ∈ v.cells.toList, ok0 n c) ∧ ∀ ρ, (conc ρ v).cells = (v.cells.toList.map (conc0 ρ)).toArray := by
  cases v with
  | agg cs =>
    simp only [cellsK, forceL_eq] at h
    exact ⟨h, fun n hn c hc => hn c hc, fun ρ => rfl⟩
  | tuple vs => exact h.elim
  | _ =>
    refine ⟨h, fun n hn c hc => ?_, fun ρ => ?_⟩
    · simp [Value.cells] at hc; subst hc; exact hn
    · first
        | rfl
        | (rename_i a; cases a <;> rfl)
        | (rename_i a b c; cases a <;> rfl)

def tupK : List Value → Nat → (Value → Prop) → Prop
  | [], _, _ => False
  | v :: _, 0, k => forceV v k
  | _ :: l, n + 1, k => tupK l n k

theorem tupK_spec : ∀ {l : List Value} {n : Nat} {k : Value → Prop}, tupK l n k → ∃ v, l[n]? = some v ∧ k v
  | [], _, _, h => h.elim
  | v :: _, 0, _, h => ⟨v, by simp, by rw [tupK, forceV_eq] at h; exact h⟩
  | _ :: l, n + 1, _, h => by obtain ⟨v, h1, h2⟩ := tupK_spec (l := l) h; exact ⟨v, by simpa using h1, h2⟩

def fldK : List (Nat × Nat × Bool) → Nat → (Nat × Nat × Bool → Prop) → Prop
  | [], _, _ => False
  | f :: _, 0, k => k f
  | _ :: l, n + 1, k => fldK l n k

theorem fldK_spec : ∀ {l : List (Nat × Nat × Bool)} {n : Nat} {k : Nat × Nat × Bool → Prop}, fldK l n k → ∃ f, l[n]? = some f ∧ k f
  | [], _, _, h => h.elim
  | v :: _, 0, _, h => ⟨v, by simp, h⟩
  | _ :: l, n + 1, _, h => by obtain ⟨v, h1, h2⟩ := fldK_spec (l := l) h; exact ⟨v, by simpa using h1, h2⟩

/-- 'wrap64', which a small number that is written out passes at once. -/
def w64 (n : Int) : Int := match n with
  | .ofNat m => match m with
    | 0 => 0
    | 1 => 1
    | 2 => 2
    | 3 => 3
    | 4 => 4
    | 5 => 5
    | 6 => 6
    | 7 => 7
    | 8 => 8
    | 9 => 9
    | 10 => 10
    | 11 => 11
    | 12 => 12
    | 13 => 13
    | 14 => 14
    | 15 => 15
    | 16 => 16
    | 17 => 17
    | 18 => 18
    | 19 => 19
    | 20 => 20
    | 21 => 21
    | 22 => 22
    | 23 => 23
    | 24 => 24
    | m => wrap64 (.ofNat m)
  | .negSucc m => match m with
    | 0 => -1
    | 1 => -2
    | m => wrap64 (.negSucc m)

theorem w64_eq (n : Int) : w64 n = wrap64 n := by
  unfold w64
  split
  · split <;> first | rfl | (unfold wrap64; rfl)
  · split <;> first | rfl | (unfold wrap64; rfl)

def intK (op : BinOp) (a b : Int) (k : Value → Prop) : Prop :=
  match op with
  | .add => k (.int .i64 (w64 (a + b)))
  | .sub => k (.int .i64 (w64 (a - b)))
  | .mul => k (.int .i64 (w64 (a * b)))
  | .quo => brK (decide (b = 0)) False (k (.int .i64 (w64 (a.tdiv b))))
  | .rem => brK (decide (b = 0)) False (k (.int .i64 (a.tmod b)))
  | .eql => k (.bool (decide (a = b)))
  | .neq => k (.bool (!decide (a = b)))
  | .lss => k (.bool (decide (a < b)))
  | .leq => k (.bool (decide (a ≤ b)))
  | .gtr => k (.bool (decide (a > b)))
  | .geq => k (.bool (decide (a ≥ b)))
  | _ => False

def byteK (op : BinOp) (a b : Int) (k : Value → Prop) : Prop :=
  match op with
  | .sub => k (.int .u8 (IntKind.u8.wrap (a - b)))
  | .eql => k (.bool (decide (a = b)))
  | .neq => k (.bool (!decide (a = b)))
  | .lss => k (.bool (decide (a < b)))
  | .leq => k (.bool (decide (a ≤ b)))
  | .gtr => k (.bool (decide (a > b)))
  | .geq => k (.bool (decide (a ≥ b)))
  | _ => False

def u64add (a b : Int) : Int := IntKind.u64.wrap (a + b)
def u64mul (a b : Int) : Int := IntKind.u64.wrap (a * b)
def u64and (a b : Int) : Int := IntKind.u64.wrap (BitVec.ofInt IntKind.u64.bits a &&& BitVec.ofInt IntKind.u64.bits b).toNat
def u64shr (a b : Int) : Int := a.fdiv (2 ^ min b.toNat IntKind.u64.bits)
def u64of (a : Int) : Int := IntKind.u64.wrap a
def u64K (op : BinOp) (a b : Int) (k : Value → Prop) : Prop :=
  match op with
  | .add => k (.int .u64 (u64add a b))
  | .mul => k (.int .u64 (u64mul a b))
  | .and => k (.int .u64 (u64and a b))
  | .shr => match decide (b < 0) with
    | true => False
    | false => k (.int .u64 (u64shr a b))
  | _ => False

def eqOnlyK (op : BinOp) (b : Bool) (k : Value → Prop) : Prop :=
  match op with
  | .eql => k (.bool b)
  | .neq => k (.bool (!b))
  | _ => False

/-- Two strings put together: the sum of the lengths fits. -/
structure AddS (n : Nat) (A : Prop) : Prop where
  le : n ≤ 9223372036854775807
  go : A
def strK (op : BinOp) (a b : ByteArray) (k : Value → Prop) : Prop :=
  match op with
  | .add => AddS (a.size + b.size) (k (.string (a ++ b)))
  | op => eqOnlyK op (a.data.toList == b.data.toList) k

def isBoolSh : Sh → Bool
  | .bool => true
  | _ => false

def isSliceSh : Sh → Bool
  | .slice _ _ => true
  | _ => false

def binK (T : Tbl) (op : BinOp) (t : Nat) (x y : Value) (k : Value → Prop) : Prop :=
  match x, y with
  | .int kx a, .int ky b => match kx, ky with
    | .i64, .i64 => intK op a b k
    | .u8, .u8 => byteK op a b k
    | .u64, .u64 => u64K op a b k
    | _, _ => False
  | .bool a, .bool b => lookT T t fun ti => match isBoolSh ti.sh with
    | true => eqOnlyK op (a == b) k
    | false => False
  | .string a, .string b => strK op a b k
  | .agg cs, .agg ds => lookT T t fun ti => match ti.eqs && intCells cs.toList && intCells ds.toList && Nat.beq cs.toList.length ti.size && Nat.beq ds.toList.length ti.size with
    | true => eqOnlyK op (eqCells cs.toList ds.toList) k
    | false => False
  | .slice a _ _, .slice b n c => match b, n, c with
    | none, 0, 0 => lookT T t fun ti => match isSliceSh ti.sh with
      | true => eqOnlyK op a.isNone k
      | false => False
    | _, _, _ => False
  | _, _ => False

def unK (op : UnOp) (x : Value) (k : Value → Prop) : Prop :=
  match op, x with
  | .neg, .int .i64 n => k (.int .i64 (w64 (0 - n)))
  | .not, .bool b => k (.bool (!b))
  | _, _ => False

def partK (cs : List Value) (off size : Nat) (agg : Bool) (k : Value → Prop) : Prop :=
  match agg with
  | true => forceL (List.take size (List.drop off cs)) fun l => match Nat.beq l.length size with
    | true => match allL (fun v => !isWild v) l with
      | true => k (.agg l.toArray)
      | false => False
    | false => False
  | false => forceL (List.take 1 (List.drop off cs)) fun l => match l with
    | v :: _ => match isWild v with
      | true => False
      | false => forceV v k
    | [] => False

def placeK (sh : Sh) (i : Nat) (k : Nat → Nat → Prop) : Prop :=
  match sh with
  | .arr _ _ es _ => k (i * es) es
  | .slice _ es => k (i * es) es
  | .str fs => fldK fs i fun f => k f.1 f.2.1
  | _ => False

def splice (cs : List Value) (off : Nat) (vs : List Value) : List Value := cs.take off ++ vs ++ cs.drop (off + vs.length)

/-- The parts of a literal, one after the other. -/
def fillK (tm : List Value) (sh : Sh) : List (Nat × Operand) → List Value → (List Value → Prop) → Prop
  | [], cs, k => k cs
  | (i, x) :: rest, cs, k => placeK sh i fun o s => opK tm x fun v => cellsK v fun vs =>
    match Nat.beq vs.length s && Nat.ble (o + s) cs.length with
    | true => forceL (splice cs o vs) fun cs' => fillK tm sh rest cs' k
    | false => False

def maxi (a b : Int) : Int := if b > a then b else a
def mini (a b : Int) : Int := if b < a then b else a

def builtinK (T : Tbl) (b : Builtin) (ts : List Nat) (vs : List Value) (k : Value → Prop) : Prop :=
  match b, ts, vs with
  | .len, [t], [.slice _ n _] => lookT T t fun ti => match ti.sh with
    | .slice .. => k (.int .i64 n)
    | _ => False
  | .cap, [t], [.slice _ _ c] => lookT T t fun ti => match ti.sh with
    | .slice .. => k (.int .i64 c)
    | _ => False
  | .len, [t], [.string s] => lookT T t fun ti => match ti.sh with
    | .string => k (.int .i64 s.size)
    | _ => False
  | .max, _, [.int .i64 a, .int .i64 b] => k (.int .i64 (maxi a b))
  | .max, _, [.int .i64 a, .int .i64 b, .int .i64 c] => k (.int .i64 (maxi (maxi a b) c))
  | .min, _, [.int .i64 a, .int .i64 b] => k (.int .i64 (mini a b))
  | .min, _, [.int .i64 a, .int .i64 b, .int .i64 c] => k (.int .i64 (mini (mini a b) c))
  | .min, _, [.int .i64 a, .int .i64 b, .int .i64 c, .int .i64 d] => k (.int .i64 (mini (mini (mini a b) c) d))
  | _, _, _ => False

/-- The bounds of a slice expression. -/
def hiK (cap len : Nat) (hi : Option Value) (k : Nat → Prop) : Prop := match hi with
  | none => k len
  | some (.int _ i) => brK (decide (0 ≤ i ∧ i ≤ (cap : Int))) (k i.toNat) False
  | some _ => False
def loK (h : Nat) (lo : Option Value) (k : Nat → Prop) : Prop := match lo with
  | none => k 0
  | some (.int _ i) => brK (decide (0 ≤ i ∧ i ≤ (h : Int))) (k i.toNat) False
  | some _ => False
def optK (tm : List Value) (x : Option Operand) (k : Option Value → Prop) : Prop := match x with
  | none => k none
  | some x => opK tm x fun v => k (some v)
def offK (m l off size : Nat) : Nat := match l with
  | 0 => off
  | l + 1 => match Nat.beq m (l + 1) with
    | true => off
    | false => off + (l + 1) * size
def subK (h l : Nat) : Nat := match l with
  | 0 => h
  | l + 1 => h - (l + 1)
theorem subK_eq (h l : Nat) : subK h l = h - l := by cases l <;> rfl

def sliceK (sh : Sh) (xv : Value) (lo hi : Option Value) (k : Value → Prop) : Prop := match sh, xv with
  | .arr n _ es _, .pointer (some ⟨b, off, none⟩) => hiK n n hi fun h => loK h lo fun l => k (.slice (some ⟨b, offK n l off es, none⟩) (subK h l) (subK n l))
  | .slice _ es, .slice (some ⟨b, off, none⟩) len cap => hiK cap len hi fun h => loK h lo fun l => k (.slice (some ⟨b, offK cap l off es, none⟩) (subK h l) (subK cap l))
  | .slice _ _, .slice none len cap => hiK cap len hi fun h => loK h lo fun l => k (.slice none (h - l) (cap - l))
  | .string, .string s => hiK s.size s.size hi fun h => loK h lo fun l => k (.string (s.extract l h))
  | _, _ => False

/-- What a function literal may capture here. -/
def isPtr : Value → Bool
  | .pointer (some _) => true
  | _ => false
theorem isPtr_conc {ρ : List Nat} {v : Value} (h : isPtr v = true) : conc ρ v = concb ρ v ∧ (ok2 ρ.length v → okb ρ.length v) ∧ (okb ρ.length v → ok2 ρ.length v) := by
  unfold isPtr at h
  split at h
  · exact ⟨rfl, fun h => h, fun h => h⟩
  · cases h
def evR (T : Tbl) (o : Op) (tm : List Value) (mem : Mem) (k : Value → Prop) : Prop :=
  match o with
  | .move x => opK tm x k
  | .assign x => opK tm x k
  | .pick c x y => opK tm c fun cv => match cv with
    | .bool b => brK b (opK tm x k) (opK tm y k)
    | _ => False
  | .load t x => lookT T t fun ti => opK tm x fun av => match av with
    | .pointer (some ⟨b, off, none⟩) => memK mem b fun blk => partK blk.1 off ti.size ti.sh.isAgg k
    | _ => False
  | .binOp op t x y _ => opK tm x fun xv => opK tm y fun yv => binK T op t xv yv k
  | .unOp op _ x => opK tm x fun xv => unK op xv k
  | .extract x i => opK tm x fun xv => match xv with
    | .tuple vs => tupK vs.toList i k
    | _ => False
  | .indexAddr t x ix => lookT T t fun ti => opK tm x fun xv => opK tm ix fun iv => match ti.sh, xv, iv with
    | .arr n _ es _, .pointer (some ⟨b, off, none⟩), .int _ i =>
      brK (decide (0 ≤ i ∧ i < (n : Int))) (k (.pointer (some ⟨b, off + i.toNat * es, none⟩))) False
    | .slice _ es, .slice (some ⟨b, off, none⟩) n _, .int _ i =>
      brK (decide (0 ≤ i ∧ i < (n : Int))) (k (.pointer (some ⟨b, off + i.toNat * es, none⟩))) False
    | _, _, _ => False
  | .index t x ix => lookT T t fun ti => opK tm x fun xv => opK tm ix fun iv => match ti.sh, xv, iv with
    | .arr n _ es a, .agg cs, .int _ i => brK (decide (0 ≤ i ∧ i < (n : Int))) (partK cs.toList (i.toNat * es) es a k) False
    | .string, .string s, .int _ i => brK (decide (0 ≤ i ∧ i < (s.size : Int))) (k (.int .u8 ((s.data.toList.getD i.toNat 0).toNat))) False
    | _, _, _ => False
  | .fieldAddr t x f => lookT T t fun ti => opK tm x fun xv => match ti.sh, xv with
    | .str fs, .pointer (some ⟨b, off, none⟩) => fldK fs f fun fd => match Nat.beq fd.2.1 0 with
      | true => False
      | false => k (.pointer (some ⟨b, off + fd.1, none⟩))
    | _, _ => False
  | .field t x f => lookT T t fun ti => opK tm x fun xv => match ti.sh, xv with
    | .str fs, .agg cs => fldK fs f fun fd => partK cs.toList fd.1 fd.2.1 fd.2.2 k
    | _, _ => False
  | .build t parts => lookT T t fun ti => match ti.sh.isAgg with
    | true => fillK tm ti.sh parts.toList ti.zero fun cs => k (.agg cs.toArray)
    | false => False
  | .nilCheck x => opK tm x fun xv => match xv with
    | .pointer (some a) => k (.pointer (some a))
    | _ => False
  | .convert s d x => lookT T s fun si => lookT T d fun di => opK tm x fun xv => match di.sh, xv with
    | .string, .slice (some ⟨b, off, none⟩) len _ => match si.sh, Nat.beq len 1 with
      | .slice e _, true => lookT T e fun ei => match ei.sh with
        | .int .u8 => memK mem b fun blk => partK blk.1 off 1 false fun v => match v with
          | .int .u8 n => k (.string ⟨#[UInt8.ofNat n.toNat]⟩)
          | _ => False
        | _ => False
      | _, _ => False
    | .int .i64, .int _ n => k (.int .i64 (w64 n))
    | .int .u8, .int _ n => k (.int .u8 (IntKind.u8.wrap n))
    | .int .u64, .int _ n => k (.int .u64 (u64of n))
    | _, _ => False
  | .call { callee := .builtin b, args := args, argTypes := ts } => argsK tm args.toList fun vs => builtinK T b ts.toList vs k
  | .slice t x lo hi none => lookT T t fun ti => opK tm x fun xv => optK tm lo fun lv => optK tm hi fun hv => sliceK ti.sh xv lv hv k
  | .makeFunc (.func n) first captured => match first.toList with
    | [] => argsK tm captured.toList fun vs => match allL isPtr vs with
      | true => k (.func (.func n) #[] vs.toArray)
      | false => False
    | _ => False
  | _ => False

/-- The operation o yields v in every frame and world that read as tm and mem do, and leaves the world as it is. -/
def ReadOK (P : Program) (o : Oper) (tm : List Value) (mem : Mem) (v : Value) : Prop :=
  ∀ w0 ρ w a, TmAt ρ tm a → MemAt w0 ρ mem w → (execOp a.eval o).run P w = .ok (.value (conc ρ v)) w ∧ ok2 ρ.length v

theorem partK_sound {cs : List Value} {off size : Nat} {agg : Bool} {k : Value → Prop} (h : partK cs off size agg k) :
    ∃ v, k v ∧ ((agg = true ∧ ∃ l, List.take size (List.drop off cs) = l ∧ l.length = size ∧ allL (fun v => !isWild v) l = true ∧ v = .agg l.toArray) ∨ (agg = false ∧ cs[off]? = some v ∧ isWild v = false)) := by
  cases agg with
  | true =>
    simp only [partK, forceL_eq] at h
    split at h
    · rename_i hl
      split at h
      · rename_i hw; exact ⟨_, h, .inl ⟨rfl, _, rfl, Nat.eq_of_beq_eq_true hl, hw, rfl⟩⟩
      · exact h.elim
    · exact h.elim
  | false =>
    simp only [partK, forceL_eq] at h
    split at h
    · rename_i v l hl
      split at h
      · exact h.elim
      rename_i hw
      rw [forceV_eq] at h
      refine ⟨v, h, .inr ⟨rfl, ?_, hw⟩⟩
      have : (List.take 1 (List.drop off cs))[0]? = some v := by rw [hl]; rfl
      simpa [List.getElem?_take, List.getElem?_drop] using this
    · exact h.elim

theorem intCells_plain : ∀ {l : List Value}, intCells l = true → allL plain0 l = true
  | [], _ => rfl
  | v :: l, h => by
    unfold intCells at h
    split at h
    · contradiction
    · rename_i n l' heq
      cases heq
      simp only [allL, plain0]
      exact intCells_plain h
    · cases h

theorem conc_agg_int {cs : Array Value} (h : intCells cs.toList = true) (ρ : List Nat) : conc ρ (.agg cs) = .agg cs :=
  (plain_ok (v := .agg cs) (intCells_plain h) 0 ρ).2

theorem eqOnlyK_sound {op : BinOp} {b : Bool} {k : Value → Prop} (h : eqOnlyK op b k) :
    (op = .eql ∧ k (.bool b)) ∨ (op = .neq ∧ k (.bool (!b))) := by
  unfold eqOnlyK at h
  split at h
  · exact .inl ⟨rfl, h⟩
  · exact .inr ⟨rfl, h⟩
  · exact h.elim

theorem wrap_i64' (n : Int) : IntKind.i64.wrap n = w64 n := by rw [w64_eq]; exact IntWalk.i64_left n
theorem beq_int (a b : Int) : (a == b) = decide (a = b) := rfl
theorem bne_int (a b : Int) : (a != b) = !decide (a = b) := rfl

theorem intK_sound {op : BinOp} {a b : Int} {k : Value → Prop} (h : intK op a b k) (t : TypeId) (P : Program) :
    ∃ v, k v ∧ plain v = true ∧ ∀ w, (binOp op t (.int .i64 a) (.int .i64 b)).run P w = .ok v w := by
  cases op <;> simp only [intK] at h
  case add => exact ⟨_, h, rfl, fun w => by simp only [binOp_add, Op.intArith, wrap_i64', Sem.run_pure]⟩
  case sub => exact ⟨_, h, rfl, fun w => by simp only [binOp_sub, Op.intArith, wrap_i64', Sem.run_pure]⟩
  case mul => exact ⟨_, h, rfl, fun w => by simp only [binOp_mul, Op.intArith, wrap_i64', Sem.run_pure]⟩
  case quo =>
    rcases br_cases h with ⟨_, h⟩ | ⟨hb, h⟩
    · exact h.elim
    · have hb' : ¬ b = 0 := of_decide_eq_false hb
      exact ⟨_, h, rfl, fun w => by simp only [binOp_quo, Op.intDiv, if_neg hb', wrap_i64', Sem.run_pure]⟩
  case rem =>
    rcases br_cases h with ⟨_, h⟩ | ⟨hb, h⟩
    · exact h.elim
    · have hb' : ¬ b = 0 := of_decide_eq_false hb
      exact ⟨_, h, rfl, fun w => by simp only [binOp_rem, Op.intDiv, if_neg hb', Sem.run_pure]⟩
  case eql => exact ⟨_, h, rfl, fun w => by simp only [binOp_eql, Sem.run_pure, beq_int]⟩
  case neq => exact ⟨_, h, rfl, fun w => by simp only [binOp_neq, Sem.run_pure, bne_int]⟩
  case lss => exact ⟨_, h, rfl, fun w => by simp only [binOp_lss, Sem.run_pure]⟩
  case leq => exact ⟨_, h, rfl, fun w => by simp only [binOp_leq, Sem.run_pure]⟩
  case gtr => exact ⟨_, h, rfl, fun w => by simp only [binOp_gtr, Sem.run_pure]⟩
  case geq => exact ⟨_, h, rfl, fun w => by simp only [binOp_geq, Sem.run_pure]⟩

theorem byteK_sound {op : BinOp} {a b : Int} {k : Value → Prop} (h : byteK op a b k) (t : TypeId) (P : Program) :
    ∃ v, k v ∧ plain v = true ∧ ∀ w, (binOp op t (.int .u8 a) (.int .u8 b)).run P w = .ok v w := by
  cases op <;> simp only [byteK] at h
  case sub => exact ⟨_, h, rfl, fun w => by simp only [binOp_sub, Op.intArith, Sem.run_pure]⟩
  case eql => exact ⟨_, h, rfl, fun w => by simp only [binOp_eql, Sem.run_pure, beq_int]⟩
  case neq => exact ⟨_, h, rfl, fun w => by simp only [binOp_neq, Sem.run_pure, bne_int]⟩
  case lss => exact ⟨_, h, rfl, fun w => by simp only [binOp_lss, Sem.run_pure]⟩
  case leq => exact ⟨_, h, rfl, fun w => by simp only [binOp_leq, Sem.run_pure]⟩
  case gtr => exact ⟨_, h, rfl, fun w => by simp only [binOp_gtr, Sem.run_pure]⟩
  case geq => exact ⟨_, h, rfl, fun w => by simp only [binOp_geq, Sem.run_pure]⟩

theorem u64K_sound {op : BinOp} {a b : Int} {k : Value → Prop} (h : u64K op a b k) (t : TypeId) (P : Program) :
    ∃ v, k v ∧ plain v = true ∧ ∀ w, (binOp op t (.int .u64 a) (.int .u64 b)).run P w = .ok v w := by
  cases op <;> simp only [u64K] at h
  case add => exact ⟨_, h, rfl, fun w => by simp only [binOp_add, Op.intArith, Sem.run_pure, u64add]⟩
  case mul => exact ⟨_, h, rfl, fun w => by simp only [binOp_mul, Op.intArith, Sem.run_pure, u64mul]⟩
  case and => exact ⟨_, h, rfl, fun w => by simp only [binOp_and, Op.intBits, Sem.run_pure, u64and]⟩
  case shr =>
    split at h
    · exact h.elim
    · rename_i hb
      have hb := of_decide_eq_false hb
      refine ⟨_, h, rfl, fun w => ?_⟩
      simp only [binOp_shr, Op.shift, if_neg hb, Sem.run_pure, u64shr]

theorem binK_sound0 {P : Program} {T : Tbl} (hT : T.Ok P) {op : BinOp} {t : Nat} {x y : Value} {k : Value → Prop} (h : binK T op t x y k) (hns : ∀ a n c, x ≠ .slice a n c) :
    ∃ v, k v ∧ plain v = true ∧ (∀ ρ, conc ρ x = x ∧ conc ρ y = y) ∧
      ∀ (w : World) (xo yo : Operand), (do eqGuard op t xo yo x y; binOp op t x y : Sem Value).run P w = .ok v w := by
  unfold binK at h
  split at h
  · rename_i kx a ky b
    split at h
    · obtain ⟨v, h1, h2, h3⟩ := intK_sound h t P
      exact ⟨v, h1, h2, fun ρ => ⟨rfl, rfl⟩, fun w xo yo => by rw [eqGuard_at_int]; exact h3 w⟩
    · obtain ⟨v, h1, h2, h3⟩ := byteK_sound h t P
      exact ⟨v, h1, h2, fun ρ => ⟨rfl, rfl⟩, fun w xo yo => by rw [eqGuard_at_int]; exact h3 w⟩
    · obtain ⟨v, h1, h2, h3⟩ := u64K_sound h t P
      exact ⟨v, h1, h2, fun ρ => ⟨rfl, rfl⟩, fun w xo yo => by rw [eqGuard_at_int]; exact h3 w⟩
    · exact h.elim
  · rename_i a b
    obtain ⟨i, hi, rfl, h'⟩ := lookT_spec h
    clear h
    have h := h'
    clear h'
    split at h
    · rename_i hb
      have hs : P.underlying i.t = some .bool := by
        have := (hT i hi).sh
        cases hsh : i.sh <;> rw [hsh] at hb this <;> first | exact this | cases hb
      rcases eqOnlyK_sound h with ⟨rfl, h⟩ | ⟨rfl, h⟩
      · refine ⟨_, h, rfl, fun ρ => ⟨rfl, rfl⟩, fun w xo yo => ?_⟩
        have he : (Op.equal i.t (.bool a) (.bool b)).run P w = .ok (a == b) w := run_equalIn_bool w 9999 i.t a b hs
        simp only [eqGuard_at_bool, binOp, Sem.run_bind, Sem.run_pure, Result.andThen_ok, he]
      · refine ⟨_, h, rfl, fun ρ => ⟨rfl, rfl⟩, fun w xo yo => ?_⟩
        have he : (Op.equal i.t (.bool a) (.bool b)).run P w = .ok (a == b) w := run_equalIn_bool w 9999 i.t a b hs
        simp only [eqGuard_at_bool, binOp, Sem.run_bind, Sem.run_pure, Result.andThen_ok, he]
    · exact h.elim
  · rename_i a b
    unfold strK at h
    split at h
    · obtain ⟨hle, h⟩ := h
      have hmx : IntKind.i64.max = 9223372036854775807 := rfl
      have hno : ¬ (((a.size + b.size : Nat) : Int) > IntKind.i64.max) := by rw [hmx]; omega
      exact ⟨_, h, rfl, fun ρ => ⟨rfl, rfl⟩, fun w xo yo => by simp only [eqGuard_at_string, binOp, Op.stringOp, hno, if_false, Sem.run_bind, Sem.run_pure, Result.andThen_ok]⟩
    rcases eqOnlyK_sound h with ⟨rfl, h⟩ | ⟨rfl, h⟩
    · exact ⟨_, h, rfl, fun ρ => ⟨rfl, rfl⟩, fun w xo yo => by simp [eqGuard_at_string, binOp, Op.stringOp, ByteArray.toList_eq]⟩
    · exact ⟨_, h, rfl, fun ρ => ⟨rfl, rfl⟩, fun w xo yo => by simp [eqGuard_at_string, binOp, Op.stringOp, ByteArray.toList_eq]⟩
  · rename_i cs ds
    obtain ⟨i, hi, rfl, h'⟩ := lookT_spec h
    clear h
    have h := h'
    clear h'
    split at h
    · rename_i hb
      simp only [Bool.and_eq_true] at hb
      obtain ⟨⟨⟨⟨h1, h2⟩, h3⟩, h4⟩, h5⟩ := hb
      have he := (hT i hi).eq h1 cs.toList ds.toList
      rcases eqOnlyK_sound h with ⟨rfl, h⟩ | ⟨rfl, h⟩
      · exact ⟨_, h, rfl, fun ρ => ⟨conc_agg_int h2 ρ, conc_agg_int h3 ρ⟩, fun w xo yo => by
          simpa using he w h2 h3 (Nat.eq_of_beq_eq_true h4) (Nat.eq_of_beq_eq_true h5) .eql (.inl rfl) xo yo⟩
      · exact ⟨_, h, rfl, fun ρ => ⟨conc_agg_int h2 ρ, conc_agg_int h3 ρ⟩, fun w xo yo => by
          simpa using he w h2 h3 (Nat.eq_of_beq_eq_true h4) (Nat.eq_of_beq_eq_true h5) .neq (.inr rfl) xo yo⟩
    · exact h.elim
  · exact absurd rfl (hns _ _ _)
  · exact h.elim

theorem eqlIn_slice_nil {P : Program} (d : Nat) (w : World) (t e : TypeId) (a : Option Addr) (l c : Nat) (h : P.underlying t = some (.slice e)) : (Op.equalIn (d + 1) t (.slice a l c) (.slice none 0 0)).run P w = .ok a.isNone w := by
  cases a <;> simp [Op.equalIn, run_underlying h]
theorem eql_slice_nil {P : Program} (w : World) (t e : TypeId) (a : Option Addr) (l c : Nat) (h : P.underlying t = some (.slice e)) : (Op.equal t (.slice a l c) (.slice none 0 0)).run P w = .ok a.isNone w :=
  eqlIn_slice_nil 9999 w t e a l c h
theorem slice_nil_sound {P : Program} {T : Tbl} (hT : T.Ok P) {op : BinOp} {t : Nat} {a : Option Addr} {l m : Nat} {k : Value → Prop} (h : binK T op t (.slice a l m) (.slice none 0 0) k) :
    ∃ v, k v ∧ plain v = true ∧ ∀ (ρ : List Nat) (w : World) (xo yo : Operand), (do eqGuard op t xo yo (conc ρ (.slice a l m)) (conc ρ (.slice none 0 0)); binOp op t (conc ρ (.slice a l m)) (conc ρ (.slice none 0 0)) : Sem Value).run P w = .ok v w := by
  have h : lookT T t fun ti => match isSliceSh ti.sh with
      | true => eqOnlyK op a.isNone k
      | false => False := h
  obtain ⟨i, hi, rfl, h'⟩ := lookT_spec h
  clear h
  have h := h'
  clear h'
  split at h
  · rename_i hb
    obtain ⟨e, hs⟩ : ∃ e, P.underlying i.t = some (.slice e) := by
      have := (hT i hi).sh
      cases hsh : i.sh with
      | slice e es => rw [hsh] at this; exact ⟨e, this.1⟩
      | _ => rw [hsh] at hb; cases hb
    have hc : ∀ ρ : List Nat, ∃ a2 : Option Addr, conc ρ (.slice a l m) = .slice a2 l m ∧ a2.isNone = a.isNone := by
      intro ρ
      cases a with
      | none => exact ⟨none, rfl, rfl⟩
      | some a => exact ⟨_, rfl, rfl⟩
    rcases eqOnlyK_sound h with ⟨rfl, h⟩ | ⟨rfl, h⟩
    · refine ⟨_, h, rfl, fun ρ w xo yo => ?_⟩
      obtain ⟨a2, h1, h2⟩ := hc ρ
      rw [h1, show conc ρ (.slice none 0 0) = .slice none 0 0 from rfl, ← h2]
      have := eql_slice_nil (P := P) w i.t e a2 l m hs
      simp [eqGuard, binOp, this]
    · refine ⟨_, h, rfl, fun ρ w xo yo => ?_⟩
      obtain ⟨a2, h1, h2⟩ := hc ρ
      rw [h1, show conc ρ (.slice none 0 0) = .slice none 0 0 from rfl, ← h2]
      have := eql_slice_nil (P := P) w i.t e a2 l m hs
      simp [eqGuard, binOp, this]
  · exact h.elim
theorem binK_sound {P : Program} {T : Tbl} (hT : T.Ok P) {op : BinOp} {t : Nat} {x y : Value} {k : Value → Prop} (h : binK T op t x y k) :
    ∃ v, k v ∧ plain v = true ∧ 
      ∀ (ρ : List Nat) (w : World) (xo yo : Operand), (do eqGuard op t xo yo (conc ρ x) (conc ρ y); binOp op t (conc ρ x) (conc ρ y) : Sem Value).run P w = .ok v w := by
  by_cases hx : ∃ a n c, x = .slice a n c
  · obtain ⟨a, l, m, rfl⟩ := hx
    cases y with
    | slice b n c =>
      match b, n, c, h with
      | none, 0, 0, h => exact slice_nil_sound hT h
      | some _, _, _, h => exact (h : False).elim
      | none, n + 1, _, h => exact (h : False).elim
      | none, 0, c + 1, h => exact (h : False).elim
    | _ => exact (h : False).elim
  · obtain ⟨v, h1, h2, h3, h4⟩ := binK_sound0 hT h (fun a n c e => hx ⟨a, n, c, e⟩)
    exact ⟨v, h1, h2, fun ρ w xo yo => by rw [(h3 ρ).1, (h3 ρ).2]; exact h4 w xo yo⟩

theorem unK_sound {P : Program} {op : UnOp} {x : Value} {k : Value → Prop} (h : unK op x k) :
    ∃ v, k v ∧ plain v = true ∧ (∀ ρ, conc ρ x = x) ∧ ∀ w, (Op.unary op x).run P w = .ok v w := by
  unfold unK at h
  split at h
  · exact ⟨_, h, rfl, fun ρ => rfl, fun w => by simp only [Op.unary, Op.intArith, wrap_i64', Sem.run_pure]⟩
  · exact ⟨_, h, rfl, fun ρ => rfl, fun w => by simp only [Op.unary, Sem.run_pure]⟩
  · exact h.elim

theorem zipIdx_fold (off : Nat) : ∀ (vs : List Value) (i : Nat) (cs : Array Value), off + i + vs.length ≤ cs.size →
    ((vs.zipIdx i).foldl (fun (cs : Array Value) (p : Value × Nat) => cs.setIfInBounds (off + p.2) p.1) cs).toList = splice cs.toList (off + i) vs
  | [], i, cs, _ => by simp [splice]
  | v :: vs, i, cs, h => by
    simp only [List.length_cons] at h
    rw [List.zipIdx_cons, List.foldl_cons, zipIdx_fold off vs (i + 1) _ (by simp; omega)]
    simp only [splice, Array.toList_setIfInBounds, List.length_cons]
    have h1 : off + i < cs.toList.length := by simp; omega
    apply List.ext_getElem?
    intro j
    simp only [List.getElem?_append, List.length_append, List.length_take, List.length_set, List.length_cons, List.getElem?_take, List.getElem?_drop, List.getElem?_set]
    grind

end Go.Ev
