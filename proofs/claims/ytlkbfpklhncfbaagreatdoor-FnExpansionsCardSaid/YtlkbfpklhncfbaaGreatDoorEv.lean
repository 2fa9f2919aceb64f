/-
  An evaluator for Go code of the model: a weakest precondition that is computed over a frame and a local memory of its own, with its soundness.
  Conditions: none; it speaks of any loaded program whose types read as a given table says.
-/
import Derived.WalkKit
import Derived.Test.YtlkbfpklhncfbaaGreatDoorLay
import Derived.Below
import Derived.Deep.Quiet
import Derived.StillTail
set_option linter.unusedVariables false
set_option linter.unusedSimpArgs false
namespace Go.Ev
open Go.RowKit

/-! ## Forcing: what makes the computation of a goal give literal terms -/

def forceV (v : Value) (k : Value → Prop) : Prop :=
  match v with
  | .bool b => k (.bool b)
  | .int i n => k (.int i n)
  | .float i n => k (.float i n)
  | .complex i n m => k (.complex i n m)
  | .string s => k (.string s)
  | .pointer a => k (.pointer a)
  | .slice a n c => k (.slice a n c)
  | .map r => k (.map r)
  | .chan r => k (.chan r)
  | .func f a b => k (.func f a b)
  | .nilFunc => k .nilFunc
  | .iface t v => k (.iface t v)
  | .nilIface => k .nilIface
  | .agg cs => k (.agg cs)
  | .tuple vs => k (.tuple vs)

theorem forceV_eq (v : Value) (k : Value → Prop) : forceV v k = k v := by cases v <;> rfl

def forceL {α : Type} : List α → (List α → Prop) → Prop
  | [], k => k []
  | v :: l, k => forceL l fun l' => k (v :: l')

theorem forceL_eq {α : Type} : ∀ (l : List α) (k : List α → Prop), forceL l k = k l
  | [], _ => rfl
  | v :: l, k => by rw [forceL, forceL_eq l]

def numK (n : Nat) (k : Nat → Prop) : Prop :=
  match n with
  | 0 => k 0 | 1 => k 1 | 2 => k 2 | 3 => k 3 | 4 => k 4 | 5 => k 5 | 6 => k 6 | 7 => k 7 | 8 => k 8 | 9 => k 9
  | 10 => k 10 | 11 => k 11 | 12 => k 12 | 13 => k 13 | 14 => k 14 | 15 => k 15 | 16 => k 16 | 17 => k 17 | 18 => k 18 | 19 => k 19
  | 20 => k 20 | 21 => k 21 | 22 => k 22 | 23 => k 23 | 24 => k 24
  | n => k n

theorem numK_eq (n : Nat) (k : Nat → Prop) : numK n k = k n := by unfold numK; split <;> rfl

/-- A branch on a Bool. -/
def brK (b : Bool) (A B : Prop) : Prop :=
  match b with
  | true => A
  | false => B

theorem br_true {b : Bool} {A B : Prop} (h : b = true) (hA : A) : brK b A B := by subst h; exact hA
theorem br_false {b : Bool} {A B : Prop} (h : b = false) (hB : B) : brK b A B := by subst h; exact hB
theorem br_split {b : Bool} {A B : Prop} (ht : b = true → A) (hf : b = false → B) : brK b A B := by
  cases b
  · exact hf rfl
  · exact ht rfl
theorem br_not {b : Bool} {A B : Prop} (h : brK b B A) : brK (!b) A B := by cases b <;> exact h
theorem br_cases {b : Bool} {A B : Prop} (h : brK b A B) : (b = true ∧ A) ∨ (b = false ∧ B) := by
  cases b
  · exact .inr ⟨rfl, h⟩
  · exact .inl ⟨rfl, h⟩

/-! ## Types, as a table says -/

inductive Sh where
  | cell
  | int (k : IntKind)
  | bool
  | string
  | arr (n e es : Nat) (agg : Bool)
  | str (fs : List (Nat × Nat × Bool))
  | slice (e es : Nat)

def Sh.isAgg : Sh → Bool
  | .arr .. | .str .. => true
  | _ => false

structure TI where
  t : Nat
  size : Nat
  zero : List Value
  sh : Sh
  /-- '==' compares the cells one by one, and all of them are integers. -/
  eqs : Bool := false
  bytes : Nat := 0

def aggD : TypeDesc → Bool
  | .struct _ | .array .. => true
  | _ => false

def ShOk (P : Program) (t : Nat) : Sh → Prop
  | .cell => (P.underlying t).map aggD = some false
  | .int k => P.underlying t = some (.int k)
  | .bool => P.underlying t = some .bool
  | .string => P.underlying t = some .string
  | .arr n e es a => P.underlying t = some (.array n e) ∧ (P.info? e).map (·.size) = some es ∧ (P.underlying e).map aggD = some a
  | .str fs => ∃ fields, P.underlying t = some (.struct fields) ∧
      fields.toList.map (fun f => (f.offset, (P.info? f.type).map (·.size), (P.underlying f.type).map aggD)) = fs.map (fun x => (x.1, some x.2.1, some x.2.2))
  | .slice e es => P.underlying t = some (.slice e) ∧ (P.info? e).map (·.size) = some es

/-- A value without a pointer into the local memory. -/
def plain0 : Value → Bool
  | .pointer (some _) | .slice (some _) _ _ | .agg _ | .tuple _ | .float _ _ => false
  | .func _ _ cap => match cap.toList with
    | [] => true
    | _ => false
  | _ => true
def allL (p : Value → Bool) : List Value → Bool
  | [] => true
  | v :: l => match p v with | true => allL p l | false => false
def plain1 : Value → Bool
  | .agg cs => allL plain0 cs.toList
  | v => plain0 v
def plain : Value → Bool
  | .tuple vs => allL plain1 vs.toList
  | v => plain1 v

def eqCells : List Value → List Value → Bool
  | .int _ a :: l, .int _ b :: m => decide (a = b) && eqCells l m
  | _, _ => true

def intCells : List Value → Bool
  | [] => true
  | .int .i64 _ :: l => intCells l
  | _ => false

structure TI.Ok (P : Program) (i : TI) : Prop where
  info : (P.info? i.t).map (fun x => (x.zero.map (fun z => z.cells.toList), x.size, x.bytes)) = some (some i.zero, i.size, i.bytes)
  sh : ShOk P i.t i.sh
  zplain : allL plain0 i.zero = true
  eq : i.eqs = true → ∀ (cs ds : List Value) (w : World), intCells cs = true → intCells ds = true → cs.length = i.size → ds.length = i.size →
    ∀ op, (op = BinOp.eql ∨ op = BinOp.neq) → ∀ x y : Operand,
      (do eqGuard op i.t x y (.agg cs.toArray) (.agg ds.toArray); binOp op i.t (.agg cs.toArray) (.agg ds.toArray) : Sem Value).run P w =
        .ok (.bool (if op = BinOp.eql then eqCells cs ds else !eqCells cs ds)) w

abbrev Tbl := List TI
def Tbl.Ok (P : Program) (T : Tbl) : Prop := ∀ i ∈ T, i.Ok P

def lookT : Tbl → Nat → (TI → Prop) → Prop
  | [], _, _ => False
  | i :: l, t, k => match Nat.beq i.t t with
    | true => k i
    | false => lookT l t k

theorem lookT_spec {T : Tbl} {t : Nat} {k : TI → Prop} (h : lookT T t k) : ∃ i ∈ T, i.t = t ∧ k i := by
  induction T with
  | nil => exact h.elim
  | cons i l ih =>
    unfold lookT at h
    split at h
    · rename_i hb; exact ⟨i, by simp, Nat.eq_of_beq_eq_true hb, h⟩
    · obtain ⟨j, hj, hk⟩ := ih h; exact ⟨j, by simp [hj], hk⟩

/-! ## Values: abstract block numbers and real ones -/

def cAddr (ρ : List Nat) (a : Addr) : Addr := { a with block := ρ.getD a.block 0 }

/-- What a function literal has captured: pointers. -/
def okb (n : Nat) : Value → Prop
  | .pointer (some a) => a.block < n
  | _ => True
def concb (ρ : List Nat) : Value → Value
  | .pointer (some a) => .pointer (some (cAddr ρ a))
  | v => v
theorem okb_mono {n m : Nat} (h : n ≤ m) {v : Value} (hv : okb n v) : okb m v := by
  unfold okb at *
  split at hv
  · exact Nat.lt_of_lt_of_le hv h
  · trivial
theorem concb_ext {ρ σ : List Nat} {v : Value} (h : okb ρ.length v) : concb (ρ ++ σ) v = concb ρ v := by
  unfold okb at h
  split at h <;> simp_all [concb, cAddr, List.getD, List.getElem?_append_left]

def ok0 (n : Nat) : Value → Prop
  | .pointer (some a) => a.block < n
  | .slice (some a) _ _ => a.block < n
  | .agg _ | .tuple _ => False
  | .func _ _ cap => ∀ v ∈ cap.toList, okb n v
  | _ => True

def conc0 (ρ : List Nat) : Value → Value
  | .pointer (some a) => .pointer (some (cAddr ρ a))
  | .slice (some a) n c => .slice (some (cAddr ρ a)) n c
  | .func f first cap => .func f first (cap.toList.map (concb ρ)).toArray
  | v => v

def ok1 (n : Nat) : Value → Prop
  | .agg cs => ∀ v ∈ cs.toList, ok0 n v
  | v => ok0 n v

def conc1 (ρ : List Nat) : Value → Value
  | .agg cs => .agg (cs.toList.map (conc0 ρ)).toArray
  | v => conc0 ρ v

def ok2 (n : Nat) : Value → Prop
  | .tuple vs => ∀ v ∈ vs.toList, ok1 n v
  | v => ok1 n v

def conc (ρ : List Nat) : Value → Value
  | .tuple vs => .tuple (vs.toList.map (conc1 ρ)).toArray
  | v => conc1 ρ v

theorem ok0_mono {n m : Nat} (h : n ≤ m) {v : Value} (hv : ok0 n v) : ok0 m v := by
  unfold ok0 at *
  split at hv
  · exact Nat.lt_of_lt_of_le hv h
  · exact Nat.lt_of_lt_of_le hv h
  · exact hv.elim
  · exact hv.elim
  · exact fun v h' => okb_mono h (hv v h')
  · trivial
theorem ok1_mono {n m : Nat} (h : n ≤ m) {v : Value} (hv : ok1 n v) : ok1 m v := by
  cases v
  case agg cs => exact fun x hx => ok0_mono h (hv x hx)
  all_goals (simp only [ok1] at hv ⊢; exact ok0_mono h hv)
theorem ok2_mono {n m : Nat} (h : n ≤ m) {v : Value} (hv : ok2 n v) : ok2 m v := by
  cases v
  case tuple cs => exact fun x hx => ok1_mono h (hv x hx)
  all_goals (simp only [ok2] at hv ⊢; exact ok1_mono h hv)

theorem conc0_ext {ρ σ : List Nat} {v : Value} (h : ok0 ρ.length v) : conc0 (ρ ++ σ) v = conc0 ρ v := by
  unfold ok0 at h
  split at h
  case h_5 =>
    simp only [conc0]
    rw [List.map_congr_left fun v hv => concb_ext (h v hv)]
  all_goals simp_all [conc0, cAddr, List.getD, List.getElem?_append_left]
theorem map_ext0 {ρ σ : List Nat} {l : List Value} (h : ∀ v ∈ l, ok0 ρ.length v) : l.map (conc0 (ρ ++ σ)) = l.map (conc0 ρ) :=
  List.map_congr_left fun v hv => conc0_ext (h v hv)
theorem conc1_ext {ρ σ : List Nat} {v : Value} (h : ok1 ρ.length v) : conc1 (ρ ++ σ) v = conc1 ρ v := by
  cases v
  case agg cs => exact congrArg (fun l => Value.agg (List.toArray l)) (map_ext0 h)
  all_goals (simp only [ok1] at h; simp only [conc1]; exact conc0_ext h)
theorem conc_ext {ρ σ : List Nat} {v : Value} (h : ok2 ρ.length v) : conc (ρ ++ σ) v = conc ρ v := by
  cases v
  case tuple cs => exact congrArg (fun l => Value.tuple (List.toArray l)) (List.map_congr_left fun v hv => conc1_ext (h v hv))
  all_goals (simp only [ok2] at h; simp only [conc]; exact conc1_ext h)

theorem allL_spec {p : Value → Bool} : ∀ {l : List Value}, allL p l = true → ∀ v ∈ l, p v = true
  | [], _, v, hv => by cases hv
  | x :: l, h, v, hv => by
    unfold allL at h
    split at h
    · rename_i hx
      rcases List.mem_cons.1 hv with rfl | hv
      · exact hx
      · exact allL_spec h v hv
    · cases h
theorem plain0_ok {v : Value} (h : plain0 v = true) (n : Nat) (ρ : List Nat) : ok0 n v ∧ conc0 ρ v = v := by
  unfold plain0 at h
  split at h
  all_goals first | (cases h; done) | skip
  · split at h
    · rename_i hc
      constructor
      · intro v hv; rw [hc] at hv; cases hv
      · simp only [conc0, hc, List.map_nil]
        congr 1
        exact (Array.toList_inj.1 (by simpa using hc)).symm
    · cases h
  constructor
  · unfold ok0; split <;> first | trivial | simp_all
  · unfold conc0; split <;> first | rfl | simp_all
theorem map_plain {f : Value → Value} {l : List Value} (h : ∀ v ∈ l, f v = v) : l.map f = l := by
  rw [List.map_congr_left h, List.map_id']
theorem plain1_ok {v : Value} (h : plain1 v = true) (n : Nat) (ρ : List Nat) : ok1 n v ∧ conc1 ρ v = v := by
  cases v with
  | agg cs =>
    have := allL_spec h
    exact ⟨fun x hx => (plain0_ok (this x hx) n ρ).1, by simp only [conc1]; rw [map_plain fun x hx => (plain0_ok (this x hx) n ρ).2]⟩
  | _ => (simp only [plain1] at h; simp only [ok1, conc1]; exact plain0_ok h n ρ)
theorem plain_ok {v : Value} (h : plain v = true) (n : Nat) (ρ : List Nat) : ok2 n v ∧ conc ρ v = v := by
  cases v with
  | tuple cs =>
    have := allL_spec h
    exact ⟨fun x hx => (plain1_ok (this x hx) n ρ).1, by simp only [conc]; rw [map_plain fun x hx => (plain1_ok (this x hx) n ρ).2]⟩
  | _ => (simp only [plain] at h; simp only [ok2, conc]; exact plain1_ok h n ρ)

/-! ## The local memory -/

/-- A block: its cells, and the type of its elements if it is the call's own (if not, it is only read). -/
abbrev Blk := List Value × Option Nat
abbrev Mem := List Blk

/-- The world at the start, and the numbers of those of its blocks that may be written. -/
structure Base where
  w : World
  wr : List Nat

/-- A value of a frame that is not told. -/
def isWild : Value → Bool
  | .float _ _ => true
  | _ => false
abbrev wild : Value := .float .f64 0
theorem plain0_wild {v : Value} (h : plain0 v = true) : isWild v = false := by cases v <;> first | rfl | cases h
theorem wild_conc0 {κ : List Nat} {v : Value} (h : isWild v = false) : isWild (conc0 κ v) = false := by
  cases v with
  | pointer a => cases a <;> rfl
  | slice a n c => cases a <;> rfl
  | float k x => cases h
  | _ => rfl

/-- The package variables are laid, and none of them is written. -/
structure LayB (w0 : Base) : Prop where
  lay : LayW w0.w
  wr : ∀ b ∈ w0.wr, layG ≤ b

structure MemAt (w0 : Base) (ρ : List Nat) (mem : Mem) (w : World) : Prop where
  os : w.os = w0.w.os
  tape : w.tape = w0.w.tape
  output : w.output = w0.w.output
  size : w0.w.heap.size ≤ w.heap.size
  len : ρ.length = mem.length
  lt : ∀ b ∈ ρ, b < w.heap.size
  inj : ∀ i j cs t, mem[i]? = some (cs, some t) → j < ρ.length → ρ.getD i 0 = ρ.getD j 0 → i = j
  old : ∀ b, b < w0.w.heap.size → b ∉ w0.wr → w.heap[b]? = w0.w.heap[b]?
  fresh : ∀ k cs t, mem[k]? = some (cs, some t) → ρ.getD k 0 ∈ w0.wr ∨ w0.w.heap.size ≤ ρ.getD k 0
  own : ∀ k cs t, mem[k]? = some (cs, some t) → w.heap[ρ.getD k 0]? = some (.cells (cs.map (conc0 ρ)).toArray t (0, 0)) ∧ ∀ v ∈ cs, ok0 ρ.length v
  ro : ∀ k cs, mem[k]? = some (cs, none) → cs ≠ [] → ρ.getD k 0 < w0.w.heap.size ∧ ρ.getD k 0 ∉ w0.wr ∧ (∀ i v, cs[i]? = some v → isWild v = false → w0.w.cell? ⟨ρ.getD k 0, i, none⟩ = some (conc0 ρ v)) ∧ ∀ v ∈ cs, ok0 ρ.length v
  lay : LayB w0

structure TmAt (ρ : List Nat) (tm : List Value) (a : Act) : Prop where
  size : a.tmps.size = tm.length
  get : ∀ (i : Nat) v, tm[i]? = some v → isWild v = false → a.tmps[i]? = some (conc ρ v) ∧ ok2 ρ.length v
  defers : a.defers = []

theorem getD_mem {α : Type} {l : List α} {i : Nat} {d : α} (h : i < l.length) : l.getD i d ∈ l := by
  simp [List.getD, h]

theorem getElem?_len {α : Type} {l : List α} {i : Nat} {x : α} (h : l[i]? = some x) : i < l.length := by
  rcases Nat.lt_or_ge i l.length with h' | h'
  · exact h'
  · simp [List.getElem?_eq_none h'] at h

theorem MemAt.drew {w0 : Base} {w : World} {ρ : List Nat} {mem : Mem} (h : MemAt w0 ρ mem w) (n : Nat) : MemAt w0 ρ mem { w with drawn := n } :=
  ⟨h.os, h.tape, h.output, h.size, h.len, h.lt, h.inj, h.old, h.fresh, h.own, h.ro, h.lay⟩
/-- The package variables now. -/
theorem MemAt.now {w0 : Base} {w : World} {ρ : List Nat} {mem : Mem} (h : MemAt w0 ρ mem w) : LayW w :=
  h.lay.lay.keep h.size fun b hb => h.old b (Nat.lt_of_lt_of_le hb h.lay.lay.size) fun hw => absurd (h.lay.wr b hw) (by omega)
/-- A block of the call's own is none of them. -/
theorem MemAt.low {w0 : Base} {w : World} {ρ : List Nat} {mem : Mem} (h : MemAt w0 ρ mem w) {k t : Nat} {cs : List Value} (hk : mem[k]? = some (cs, some t)) : layG ≤ ρ.getD k 0 := by
  rcases h.fresh k cs t hk with h1 | h1
  · exact h.lay.wr _ h1
  · exact Nat.le_trans h.lay.lay.size h1

/-- A callee that leaves alone all that there was. -/
theorem MemAt.below {w0 : Base} {w w' : World} {ρ : List Nat} {mem : Mem} (h : MemAt w0 ρ mem w) (hb : Below w.heap.size w w') : MemAt w0 ρ mem w' where
  os := hb.os.trans h.os
  tape := hb.tape.trans h.tape
  output := hb.output.trans h.output
  size := Nat.le_trans h.size hb.size
  len := h.len
  lt := fun b hb' => Nat.lt_of_lt_of_le (h.lt b hb') hb.size
  inj := h.inj
  fresh := h.fresh
  old := fun b hb' hk => (hb.block b (Nat.lt_of_lt_of_le hb' h.size)).trans (h.old b hb' hk)
  own := fun k cs t hk => by
    obtain ⟨h1, h2⟩ := h.own k cs t hk
    refine ⟨?_, h2⟩
    have hl : ρ.getD k 0 < w.heap.size := h.lt _ (getD_mem (by rw [h.len]; exact getElem?_len hk))
    rw [hb.block _ hl]; exact h1
  ro := h.ro
  lay := h.lay

/-- A new block of the call's own. -/
theorem MemAt.alloc {w0 : Base} {w : World} {ρ : List Nat} {mem : Mem} (h : MemAt w0 ρ mem w) {cs : List Value} (hcs : ∀ v ∈ cs, ok0 ρ.length v) (t : Nat) :
    MemAt w0 (ρ ++ [w.heap.size]) (mem ++ [(cs, some t)]) (w.alloc (.cells (cs.map (conc0 ρ)).toArray t)) where
  os := h.os
  tape := h.tape
  output := h.output
  size := by rw [World.size_alloc]; have := h.size; omega
  len := by simp [h.len]
  lt := fun b hb => by
    rw [World.size_alloc]
    rcases List.mem_append.1 hb with hb | hb
    · have := h.lt b hb; omega
    · simp at hb; omega
  inj := fun i j cs' t' hi hj he => by
    have hi' : i < mem.length + 1 := by simpa using getElem?_len hi
    have hj' : j < ρ.length + 1 := by simpa using hj
    by_cases h1 : i < mem.length
    · rw [List.getElem?_append_left h1] at hi
      have hi2 : i < ρ.length := by rw [h.len]; exact h1
      by_cases h2 : j < ρ.length
      · refine h.inj i j cs' t' hi h2 ?_
        simpa [List.getD, List.getElem?_append_left, hi2, h2] using he
      · have hj3 : j = ρ.length := by omega
        subst hj3
        have := h.lt (ρ.getD i 0) (getD_mem hi2)
        simp [List.getD, List.getElem?_append_left, hi2] at he this
        omega
    · have hi3 : i = ρ.length := by rw [h.len]; omega
      subst hi3
      by_cases h2 : j < ρ.length
      · have := h.lt (ρ.getD j 0) (getD_mem h2)
        simp [List.getD, List.getElem?_append_left, h2] at he this
        omega
      · omega
  old := fun b hb hk => by
    have hlt : b < w.heap.size := Nat.lt_of_lt_of_le hb h.size
    have : (w.alloc (.cells (cs.map (conc0 ρ)).toArray t)).heap[b]? = w.heap[b]? := Below.heap_alloc _ _ _ hlt
    rw [this]
    exact h.old b hb hk
  fresh := fun k cs' t' hk => by
    by_cases hkl : k < mem.length
    · rw [List.getElem?_append_left hkl] at hk
      have hkl2 : k < ρ.length := by rw [h.len]; exact hkl
      have hg : (ρ ++ [w.heap.size]).getD k 0 = ρ.getD k 0 := by simp [List.getD, List.getElem?_append_left, hkl2]
      rw [hg]
      exact h.fresh k cs' t' hk
    · have hk' : k = mem.length := by have := getElem?_len hk; simp at this; omega
      subst hk'
      have : (ρ ++ [w.heap.size]).getD mem.length 0 = w.heap.size := by rw [← h.len]; simp [List.getD]
      rw [this]
      exact .inr h.size
  own := fun k cs' t' hk => by
    by_cases hkl : k < mem.length
    · rw [List.getElem?_append_left hkl] at hk
      obtain ⟨h1, h2⟩ := h.own k cs' t' hk
      have hkl2 : k < ρ.length := by rw [h.len]; exact hkl
      have hg : (ρ ++ [w.heap.size]).getD k 0 = ρ.getD k 0 := by simp [List.getD, List.getElem?_append_left, hkl2]
      refine ⟨?_, fun v hv => ok0_mono (by simp) (h2 v hv)⟩
      rw [hg, map_ext0 h2, Below.heap_alloc _ _ _ (h.lt _ (getD_mem hkl2))]
      exact h1
    · have hk' : k = mem.length := by have := getElem?_len hk; simp at this; omega
      subst hk'
      simp at hk
      obtain ⟨rfl, rfl⟩ := hk
      refine ⟨?_, fun v hv => ok0_mono (by simp) (hcs v hv)⟩
      rw [map_ext0 hcs]
      have : (ρ ++ [w.heap.size]).getD mem.length 0 = w.heap.size := by rw [← h.len]; simp [List.getD]
      rw [this]
      exact (MapKept.heap_alloc w _).1
  ro := fun k cs' hk hne => by
    have hkl : k < mem.length := by
      rcases Nat.lt_or_ge k mem.length with h' | h'
      · exact h'
      · have := getElem?_len hk
        simp at this
        have : k = mem.length := by omega
        subst this
        simp at hk
    rw [List.getElem?_append_left hkl] at hk
    have hkl2 : k < ρ.length := by rw [h.len]; exact hkl
    obtain ⟨h1, h0, h2, h3⟩ := h.ro k cs' hk hne
    have hg : (ρ ++ [w.heap.size]).getD k 0 = ρ.getD k 0 := by simp [List.getD, List.getElem?_append_left, hkl2]
    refine ⟨by rw [hg]; exact h1, by rw [hg]; exact h0, fun i v hv hw => ?_, fun v hv => ok0_mono (by simp) (h3 v hv)⟩
    rw [hg, conc0_ext (h3 v (List.mem_of_getElem? hv))]
    exact h2 i v hv hw
  lay := h.lay

end Go.Ev
