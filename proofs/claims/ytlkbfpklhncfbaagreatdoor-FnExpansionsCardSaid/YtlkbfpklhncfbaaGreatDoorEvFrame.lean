/-
  The evaluator, part 9: calls that hand back new memory, or write memory of their caller: the frame rule.
  Conditions: none.
-/
import Derived.Test.YtlkbfpklhncfbaaGreatDoorEvFn
set_option linter.unusedVariables false
set_option linter.unusedSimpArgs false
namespace Go.Ev
open Go.RowKit

theorem callOK_of {P : Program} {T : Tbl} (g : EvGood P T) {f : Nat} {fn : Func} {code : Code} (hf : IsFn P f fn code) {args0 : List Value} {mem0 : Mem} {R : Value → Mem → Prop}
    (h : evFn P T fn code args0 mem0 R) : CallOK P f args0 mem0 R :=
  ⟨hf.enters, fun w0 ρ w hm hargs => (evFn_sound g.tbl g.mix hf.at_ hf.body h hm hargs).mono fun e w' ⟨v, mem', σ, h1, h2, h3, h4⟩ => ⟨v, mem', σ, h1, h2, h3, h4⟩⟩

/-- The kinds of the callee's blocks behind the call: as they were; new ones are its own. -/
def kindsB : List (Option Nat) → List (Option Nat) → Bool
  | [], l => l.all (·.isSome)
  | k :: ks, [] => false
  | k :: ks, l :: ls => (match k, l with
    | none, none => true
    | some a, some b => Nat.beq a b
    | _, _ => false) && kindsB ks ls

theorem kindsB_len : ∀ {ks ls : List (Option Nat)}, kindsB ks ls = true → ks.length ≤ ls.length
  | [], _, _ => Nat.zero_le _
  | _ :: _, [], h => by simp [kindsB] at h
  | _ :: ks, _ :: ls, h => by
    simp only [kindsB, Bool.and_eq_true] at h
    have := kindsB_len h.2
    simp; omega
theorem kindsB_same : ∀ {ks ls : List (Option Nat)}, kindsB ks ls = true → ∀ j, j < ks.length → ks[j]? = ls[j]?
  | [], _, _, j, hj => by simp at hj
  | _ :: _, [], h, _, _ => by simp [kindsB] at h
  | k :: ks, l :: ls, h, j, hj => by
    simp only [kindsB, Bool.and_eq_true] at h
    cases j with
    | zero =>
      have h1 := h.1
      simp only [List.getElem?_cons_zero]
      split at h1
      · rfl
      · rw [Nat.eq_of_beq_eq_true h1]
      · cases h1
    | succ j =>
      simp only [List.getElem?_cons_succ]
      exact kindsB_same h.2 j (by simpa using hj)
theorem kindsB_new : ∀ {ks ls : List (Option Nat)}, kindsB ks ls = true → ∀ j k, ks.length ≤ j → ls[j]? = some k → ∃ t, k = some t
  | [], ls, h, j, k, _, hk => by
    simp only [kindsB, List.all_eq_true] at h
    exact Option.isSome_iff_exists.1 (h k (List.mem_of_getElem? hk))
  | _ :: _, [], h, _, _, _, _ => by simp [kindsB] at h
  | _ :: ks, _ :: ls, h, j, k, hj, hk => by
    simp only [kindsB, Bool.and_eq_true] at h
    cases j with
    | zero => simp at hj
    | succ j => exact kindsB_new h.2 j k (by simpa using hj) (by simpa using hk)

/-- The caller's numbers of the callee's blocks: those that it gave, and new ones. -/
def iotaL (ι : List Nat) (n new : Nat) : List Nat := ι ++ List.range' n new

/-- The caller's memory behind the call: its blocks that the callee may write, as they are now; the new ones. -/
def setAll (κ : List Nat) : Mem → List Nat → Mem → Mem
  | mem, b :: ι, (cs, some t) :: out => setAll κ (setM mem b (cs.map (conc0 κ), some t)) ι out
  | mem, _ :: ι, (_, none) :: out => setAll κ mem ι out
  | mem, _, _ => mem
def joinM (mem : Mem) (ι : List Nat) (m0 : Nat) (mem' : Mem) : Mem :=
  setAll (iotaL ι mem.length (mem'.length - m0)) mem ι mem' ++ (mem'.drop m0).map fun b => (b.1.map (conc0 (iotaL ι mem.length (mem'.length - m0))), b.2)

theorem setAll_len {κ : List Nat} : ∀ (ι : List Nat) (mem out : Mem), (setAll κ mem ι out).length = mem.length
  | [], mem, out => by cases out <;> rfl
  | b :: ι, mem, [] => rfl
  | b :: ι, mem, (cs, some t) :: out => by rw [setAll, setAll_len ι, setM_eq]; simp
  | b :: ι, mem, (cs, none) :: out => by rw [setAll, setAll_len ι]

theorem setAll_other {κ : List Nat} : ∀ (ι : List Nat) (mem out : Mem) (b : Nat), (∀ (j : Nat) (cs : List Value) (t : Nat), ι[j]? = some b → out[j]? = some (cs, some t) → False) → (setAll κ mem ι out)[b]? = mem[b]?
  | [], mem, out, b, _ => by cases out <;> rfl
  | c :: ι, mem, [], b, _ => rfl
  | c :: ι, mem, (cs, some t) :: out, b, h => by
    rw [setAll, setAll_other ι _ out b fun j cs' t' h1 h2 => h (j + 1) cs' t' (by simpa using h1) (by simpa using h2), setM_eq]
    rw [List.getElem?_set_ne]
    intro e
    subst e
    exact h 0 cs t (by simp) (by simp)
  | c :: ι, mem, (cs, none) :: out, b, h => by
    rw [setAll, setAll_other ι _ out b fun j cs' t' h1 h2 => h (j + 1) cs' t' (by simpa using h1) (by simpa using h2)]

theorem setAll_at {κ : List Nat} : ∀ (ι : List Nat) (mem out : Mem) (j b : Nat) (cs : List Value) (t : Nat), ι.Nodup → ι[j]? = some b → out[j]? = some (cs, some t) → b < mem.length →
    (setAll κ mem ι out)[b]? = some (cs.map (conc0 κ), some t)
  | [], mem, out, j, b, cs, t, _, h, _, _ => by simp at h
  | c :: ι, mem, [], j, b, cs, t, _, _, h, _ => by simp at h
  | c :: ι, mem, (cs', k') :: out, j, b, cs, t, hn, h1, h2, hb => by
    obtain ⟨hc, hn'⟩ := List.nodup_cons.1 hn
    cases j with
    | zero =>
      simp at h1 h2
      obtain ⟨rfl, rfl⟩ := h2
      subst h1
      rw [setAll, setAll_other ι _ out c fun j' cs'' t' h3 h4 => hc (List.mem_of_getElem? h3), setM_eq]
      simp [hb]
    | succ j =>
      cases k' with
      | some t' =>
        rw [setAll]
        exact setAll_at ι _ out j b cs t hn' (by simpa using h1) (by simpa using h2) (by rw [setM_eq]; simpa using hb)
      | none =>
        rw [setAll]
        exact setAll_at ι _ out j b cs t hn' (by simpa using h1) (by simpa using h2) hb

theorem conc0_conc0 {ι ρ : List Nat} {v : Value} (h : ok0 ι.length v) : conc0 ρ (conc0 ι v) = conc0 (ι.map fun b => ρ.getD b 0) v := by
  have g : ∀ b, b < ι.length → ρ.getD (ι.getD b 0) 0 = (ι.map fun b => ρ.getD b 0).getD b 0 := fun b hb => by
    simp [List.getD, hb]
  cases v with
  | func f first cap =>
    simp only [conc0]
    congr 1
    congr 1
    rw [List.map_map]
    refine List.map_congr_left fun v hv => ?_
    have h' := h v hv
    cases v with
    | pointer a =>
      cases a with
      | none => rfl
      | some a => simp only [Function.comp, concb, cAddr]; rw [g _ h']
    | _ => rfl
  | pointer a =>
    cases a with
    | none => rfl
    | some a => simp only [conc0, cAddr]; rw [g _ h]
  | slice a n c =>
    cases a with
    | none => rfl
    | some a => simp only [conc0, cAddr]; rw [g _ h]
  | _ => rfl
theorem conc1_conc1 {ι ρ : List Nat} {v : Value} (h : ok1 ι.length v) : conc1 ρ (conc1 ι v) = conc1 (ι.map fun b => ρ.getD b 0) v := by
  cases v with
  | agg cs =>
    simp only [conc1]
    congr 1
    congr 1
    rw [List.map_map]
    exact List.map_congr_left fun v hv => conc0_conc0 (h v hv)
  | pointer a => cases a with
    | none => rfl
    | some a => exact conc0_conc0 (ρ := ρ) (v := .pointer (some a)) h
  | slice a n c => cases a with
    | none => rfl
    | some a => exact conc0_conc0 (ρ := ρ) (v := .slice (some a) n c) h
  | func f first cap => exact conc0_conc0 (ρ := ρ) (v := .func f first cap) h
  | _ => rfl
theorem conc_conc {ι ρ : List Nat} {v : Value} (h : ok2 ι.length v) : conc ρ (conc ι v) = conc (ι.map fun b => ρ.getD b 0) v := by
  cases v with
  | tuple cs =>
    simp only [conc]
    congr 1
    congr 1
    rw [List.map_map]
    exact List.map_congr_left fun v hv => conc1_conc1 (h v hv)
  | agg cs => exact conc1_conc1 (ρ := ρ) (v := .agg cs) h
  | pointer a => cases a with
    | none => rfl
    | some a => exact conc0_conc0 (ρ := ρ) (v := .pointer (some a)) h
  | slice a n c => cases a with
    | none => rfl
    | some a => exact conc0_conc0 (ρ := ρ) (v := .slice (some a) n c) h
  | func f first cap => exact conc0_conc0 (ρ := ρ) (v := .func f first cap) h
  | _ => rfl

theorem ok0_conc0 {ι : List Nat} {n : Nat} {v : Value} (h : ok0 ι.length v) (hι : ∀ b ∈ ι, b < n) : ok0 n (conc0 ι v) := by
  have g : ∀ b, b < ι.length → ι.getD b 0 < n := fun b hb => hι _ (getD_mem hb)
  cases v with
  | pointer a => cases a with
    | none => trivial
    | some a => exact g _ h
  | slice a k c => cases a with
    | none => trivial
    | some a => exact g _ h
  | agg cs => exact h.elim
  | tuple vs => exact h.elim
  | func f first cap =>
    intro u hu
    have hu : u ∈ cap.toList.map (concb ι) := by simpa using hu
    obtain ⟨x, hx, rfl⟩ := List.mem_map.1 hu
    have h' := h x hx
    cases x with
    | pointer a => cases a with
      | none => trivial
      | some a => exact g _ h'
    | _ => trivial
  | _ => trivial
theorem ok1_conc1 {ι : List Nat} {n : Nat} {v : Value} (h : ok1 ι.length v) (hι : ∀ b ∈ ι, b < n) : ok1 n (conc1 ι v) := by
  have g : ∀ b, b < ι.length → ι.getD b 0 < n := fun b hb => hι _ (getD_mem hb)
  cases v with
  | agg cs =>
    intro u hu
    simp only [List.mem_map] at hu
    obtain ⟨x, hx, rfl⟩ := hu
    exact ok0_conc0 (h x hx) hι
  | pointer a => cases a with
    | none => trivial
    | some a => exact g _ h
  | slice a k c => cases a with
    | none => trivial
    | some a => exact g _ h
  | tuple vs => exact h.elim
  | func f first cap => exact ok0_conc0 (v := .func f first cap) h hι
  | _ => trivial
theorem ok2_conc {ι : List Nat} {n : Nat} {v : Value} (h : ok2 ι.length v) (hι : ∀ b ∈ ι, b < n) : ok2 n (conc ι v) := by
  have g : ∀ b, b < ι.length → ι.getD b 0 < n := fun b hb => hι _ (getD_mem hb)
  cases v with
  | tuple cs =>
    intro u hu
    simp only [List.mem_map] at hu
    obtain ⟨x, hx, rfl⟩ := hu
    exact ok1_conc1 (h x hx) hι
  | agg cs => exact ok1_conc1 (v := .agg cs) h hι
  | pointer a => cases a with
    | none => trivial
    | some a => exact g _ h
  | slice a k c => cases a with
    | none => trivial
    | some a => exact g _ h
  | func f first cap => exact ok0_conc0 (v := .func f first cap) h hι
  | _ => trivial

/-- The callee's blocks, among the caller's. -/
def BlkOk (ι : List Nat) (mem mem0 : Mem) : Prop := ∀ j cs kd, mem0[j]? = some (cs, kd) → ∃ kd', mem[ι.getD j 0]? = some (cs.map (conc0 ι), kd') ∧ (∀ t, kd = some t → kd' = some t) ∧ ∀ v ∈ cs, ok0 mem0.length v

def ownOf (ρ0 : List Nat) (mem0 : Mem) : List Nat := (List.range mem0.length).filterMap fun j => match mem0[j]? with
  | some (_, some _) => some (ρ0.getD j 0)
  | _ => none

theorem ownOf_mem {ρ0 : List Nat} {mem0 : Mem} {x : Nat} : x ∈ ownOf ρ0 mem0 ↔ ∃ j cs t, mem0[j]? = some (cs, some t) ∧ x = ρ0.getD j 0 := by
  unfold ownOf
  rw [List.mem_filterMap]
  constructor
  · rintro ⟨j, _, h⟩
    split at h
    · rename_i cs t hm; cases h; exact ⟨j, cs, t, hm, rfl⟩
    · cases h
  · rintro ⟨j, cs, t, hm, rfl⟩
    exact ⟨j, List.mem_range.2 (getElem?_len hm), by rw [hm]⟩

section
variable {w0 : Base} {ρ ι : List Nat} {mem mem0 : Mem} {w : World}

theorem frame_at (hlen : ι.length = mem0.length) (j : Nat) (hj : j < mem0.length) : (ι.map fun b => ρ.getD b 0).getD j 0 = ρ.getD (ι.getD j 0) 0 := by
  have : j < ι.length := by omega
  simp [List.getD, this]

theorem frame_inj (hm : MemAt w0 ρ mem w) (hlen : ι.length = mem0.length) (hnd : ι.Nodup) (hblk : BlkOk ι mem mem0) {j b : Nat} {cs : List Value} {t : Nat} (hj : mem0[j]? = some (cs, some t)) (hb : b < ρ.length)
    (he : ρ.getD (ι.getD j 0) 0 = ρ.getD b 0) : ι.getD j 0 = b := by
  obtain ⟨kd', h1, h2, _⟩ := hblk j cs _ hj
  rw [h2 t rfl] at h1
  exact hm.inj _ _ _ t h1 hb he

theorem frame_lt (hm : MemAt w0 ρ mem w) (hblk : BlkOk ι mem mem0) {j : Nat} {b : Blk} (hj : mem0[j]? = some b) : ι.getD j 0 < ρ.length := by
  obtain ⟨kd', h1, _⟩ := hblk j b.1 b.2 hj
  rw [hm.len]
  exact getElem?_len h1

theorem nodup_getD {ι : List Nat} (hnd : ι.Nodup) {i j : Nat} (hi : i < ι.length) (hj : j < ι.length) (h : ι.getD i 0 = ι.getD j 0) : i = j := by
  have h1 : ι[i] = ι[j] := by simpa [List.getD, hi, hj] using h
  exact (List.getElem_inj hnd).1 h1

theorem frame_start (hm : MemAt w0 ρ mem w) (hlen : ι.length = mem0.length) (hnd : ι.Nodup) (hblk : BlkOk ι mem mem0) :
    MemAt ⟨w, ownOf (ι.map fun b => ρ.getD b 0) mem0⟩ (ι.map fun b => ρ.getD b 0) mem0 w where
  os := rfl
  tape := rfl
  output := rfl
  size := Nat.le_refl _
  len := by simp [hlen]
  lt := fun b hb => by
    obtain ⟨x, hx, rfl⟩ := List.mem_map.1 hb
    obtain ⟨j, hj, rfl⟩ := List.getElem_of_mem hx
    have hj' : j < mem0.length := by omega
    have := frame_lt hm hblk (List.getElem?_eq_getElem hj')
    have e : ι.getD j 0 = ι[j] := by simp [List.getD, hj]
    rw [e] at this
    exact hm.lt _ (getD_mem this)
  inj := fun i j cs t hi hj he => by
    have hj' : j < mem0.length := by simpa [hlen] using hj
    have hi' := getElem?_len hi
    rw [frame_at hlen i hi', frame_at hlen j hj'] at he
    have := frame_inj hm hlen hnd hblk hi (frame_lt hm hblk (List.getElem?_eq_getElem hj')) he
    exact nodup_getD hnd (by omega) (by omega) this
  old := fun _ _ _ => rfl
  fresh := fun k cs t hk => .inl (ownOf_mem.2 ⟨k, cs, t, hk, rfl⟩)
  own := fun k cs t hk => by
    obtain ⟨kd', h1, h2, h3⟩ := hblk k cs _ hk
    rw [h2 t rfl] at h1
    obtain ⟨h4, _⟩ := hm.own _ _ t h1
    rw [frame_at hlen k (getElem?_len hk)]
    refine ⟨?_, fun v hv => by rw [List.length_map, hlen]; exact h3 v hv⟩
    rw [h4, List.map_map]
    congr 3
    exact List.map_congr_left fun v hv => conc0_conc0 (by rw [hlen]; exact h3 v hv)
  ro := fun k cs hk _ => by
    obtain ⟨kd', h1, _, h3⟩ := hblk k cs _ hk
    have hkl := frame_lt hm hblk hk
    rw [frame_at hlen k (getElem?_len hk)]
    refine ⟨hm.lt _ (getD_mem hkl), fun hin => ?_, fun i v hv hw => ?_, fun v hv => by rw [List.length_map, hlen]; exact h3 v hv⟩
    · obtain ⟨j, cs', t, hj, he⟩ := ownOf_mem.1 hin
      rw [frame_at hlen j (getElem?_len hj)] at he
      have := frame_inj hm hlen hnd hblk hj hkl he.symm
      have := nodup_getD hnd (by have := getElem?_len hj; omega) (by have := getElem?_len hk; omega) this
      subst this
      rw [hk] at hj
      cases hj
    · have := (hm.cell h1 (i := i) (v := conc0 ι v) (by simp [hv]) (wild_conc0 hw)).1
      rw [conc0_conc0 (by rw [hlen]; exact h3 v (List.mem_of_getElem? hv))] at this
      exact this
  lay := ⟨hm.now, fun b hb => by
    obtain ⟨j, cs', t, hj, rfl⟩ := ownOf_mem.1 hb
    obtain ⟨kd', h1, h2, h3⟩ := hblk j cs' _ hj
    rw [h2 t rfl] at h1
    rw [frame_at hlen j (getElem?_len hj)]
    exact hm.low h1⟩
theorem iota_len (hlen : ι.length = mem0.length) {mem' : Mem} (hge : mem0.length ≤ mem'.length) : (iotaL ι mem.length (mem'.length - mem0.length)).length = mem'.length := by
  simp [iotaL, hlen]; omega

theorem iota_at_old {n new j : Nat} (hj : j < ι.length) : (iotaL ι n new).getD j 0 = ι.getD j 0 := by
  simp [iotaL, List.getD, List.getElem?_append_left, hj]
theorem iota_at_new {n new q : Nat} (hq : q < new) : (iotaL ι n new).getD (ι.length + q) 0 = n + q := by
  simp [iotaL, List.getD, List.getElem?_append_right, hq, List.getElem?_range']

theorem iota_map {σ : List Nat} (hm : MemAt w0 ρ mem w) (hlen : ι.length = mem0.length) (hblk : BlkOk ι mem mem0) {new : Nat} (hσ : σ.length = new) :
    (iotaL ι mem.length new).map (fun b => (ρ ++ σ).getD b 0) = (ι.map fun b => ρ.getD b 0) ++ σ := by
  unfold iotaL
  rw [List.map_append]
  congr 1
  · refine List.map_congr_left fun b hb => ?_
    obtain ⟨j, hj, rfl⟩ := List.getElem_of_mem hb
    have := frame_lt hm hblk (List.getElem?_eq_getElem (show j < mem0.length by omega))
    have e : ι.getD j 0 = ι[j] := by simp [List.getD, hj]
    rw [e] at this
    simp [List.getD, List.getElem?_append_left, this]
  · apply List.ext_getElem?
    intro q
    by_cases hq : q < new
    · have hq' : q < σ.length := by omega
      rw [List.getElem?_map, List.getElem?_range' hq]
      have : ρ.length ≤ mem.length + 1 * q := by rw [hm.len]; omega
      simp [List.getD, List.getElem?_append_right this, hm.len, hq']
    · rw [List.getElem?_eq_none (by simp; omega), List.getElem?_eq_none (by omega)]

theorem frame_end {σ : List Nat} {mem' : Mem} {w' : World} (hm : MemAt w0 ρ mem w) (hlen : ι.length = mem0.length) (hnd : ι.Nodup) (hblk : BlkOk ι mem mem0)
    (hk : kindsB (mem0.map (·.2)) (mem'.map (·.2)) = true) (hm' : MemAt ⟨w, ownOf (ι.map fun b => ρ.getD b 0) mem0⟩ ((ι.map fun b => ρ.getD b 0) ++ σ) mem' w') :
    MemAt w0 (ρ ++ σ) (joinM mem ι mem0.length mem') w' := by
  have hge : mem0.length ≤ mem'.length := by have := kindsB_len hk; simpa using this
  have hσ : σ.length = mem'.length - mem0.length := by have := hm'.len; simp [hlen] at this; omega
  generalize hκ : iotaL ι mem.length (mem'.length - mem0.length) = κ
  have hκl : κ.length = mem'.length := by rw [← hκ]; exact iota_len hlen hge
  have hκm : κ.map (fun b => (ρ ++ σ).getD b 0) = (ι.map fun b => ρ.getD b 0) ++ σ := by rw [← hκ]; exact iota_map hm hlen hblk hσ
  have haddr : ∀ j, j < mem'.length → ((ι.map fun b => ρ.getD b 0) ++ σ).getD j 0 = (ρ ++ σ).getD (κ.getD j 0) 0 := fun j hj => by
    rw [← hκm]
    have : j < κ.length := by omega
    simp [List.getD, this]
  have hold : ∀ b, b < ρ.length → (ρ ++ σ).getD b 0 = ρ.getD b 0 := fun b hb => by simp [List.getD, List.getElem?_append_left, hb]
  have hκold : ∀ j, j < mem0.length → κ.getD j 0 = ι.getD j 0 := fun j hj => by rw [← hκ]; exact iota_at_old (by omega)
  have hκnew : ∀ q, q < mem'.length - mem0.length → κ.getD (mem0.length + q) 0 = mem.length + q := fun q hq => by rw [← hκ, ← hlen]; exact iota_at_new (by omega)
  have hconc : ∀ v, ok0 ((ι.map fun b => ρ.getD b 0) ++ σ).length v → conc0 (ρ ++ σ) (conc0 κ v) = conc0 ((ι.map fun b => ρ.getD b 0) ++ σ) v := fun v hv => by
    rw [conc0_conc0 (by rw [hκl, ← hm'.len]; exact hv), hκm]
  have hkmem : ∀ j cs t, mem0[j]? = some (cs, some t) → ∃ cs', mem'[j]? = some (cs', some t) := fun j cs t hj => by
    have hjl := getElem?_len hj
    have := kindsB_same hk j (by simpa using hjl)
    rw [List.getElem?_map, List.getElem?_map, hj] at this
    cases hj' : mem'[j]? with
    | none => rw [hj'] at this; cases this
    | some b => rw [hj'] at this; simp at this; exact ⟨b.1, by rw [this]; exact hj'⟩
  have hkmem' : ∀ j cs' t, j < mem0.length → mem'[j]? = some (cs', some t) → ∃ cs, mem0[j]? = some (cs, some t) := fun j cs' t hjl hj => by
    have := kindsB_same hk j (by simpa using hjl)
    rw [List.getElem?_map, List.getElem?_map, hj] at this
    cases hj' : mem0[j]? with
    | none => rw [hj'] at this; cases this
    | some b => rw [hj'] at this; simp at this; exact ⟨b.1, by rw [← this]⟩
  have hknew : ∀ q b, mem'[mem0.length + q]? = some b → ∃ t, b.2 = some t := fun q b hb => kindsB_new hk (mem0.length + q) b.2 (by simp) (by rw [List.getElem?_map, hb]; rfl)
  have hιl : ∀ j, j < mem0.length → ι.getD j 0 < ρ.length := fun j hj => frame_lt hm hblk (List.getElem?_eq_getElem hj)
  have hιmem : ∀ j, j < mem0.length → ι[j]? = some (ι.getD j 0) := fun j hj => by
    have : j < ι.length := by omega
    simp [List.getD, this]
  -- the blocks of the new memory
  have hcase : ∀ b cs kd, (joinM mem ι mem0.length mem')[b]? = some (cs, kd) →
      (∃ j cs' t, mem'[j]? = some (cs', some t) ∧ b = κ.getD j 0 ∧ cs = cs'.map (conc0 κ) ∧ kd = some t) ∨
      (b < mem.length ∧ mem[b]? = some (cs, kd) ∧ ∀ j cs' t, j < mem0.length → mem'[j]? = some (cs', some t) → ι.getD j 0 ≠ b) := fun b cs kd hb => by
    unfold joinM at hb
    rw [hκ] at hb
    by_cases hbl : b < mem.length
    · rw [List.getElem?_append_left (by rw [setAll_len]; exact hbl)] at hb
      by_cases hx : ∃ j cs' t, j < mem0.length ∧ mem'[j]? = some (cs', some t) ∧ ι.getD j 0 = b
      · obtain ⟨j, cs', t, hj, hj', rfl⟩ := hx
        rw [setAll_at ι mem mem' j _ cs' t hnd (hιmem j hj) hj' hbl] at hb
        simp only [Option.some.injEq, Prod.mk.injEq] at hb
        exact .inl ⟨j, cs', t, hj', (hκold j hj).symm, hb.1.symm, hb.2.symm⟩
      · have hno : ∀ j cs' t, j < mem0.length → mem'[j]? = some (cs', some t) → ι.getD j 0 ≠ b := fun j cs' t h1 h2 h3 => hx ⟨j, cs', t, h1, h2, h3⟩
        rw [setAll_other ι mem mem' b fun j cs' t h1 h2 => by
          have hjl : j < mem0.length := by have := getElem?_len h1; omega
          rw [hιmem j hjl] at h1
          exact hno j cs' t hjl h2 (Option.some.inj h1)] at hb
        exact .inr ⟨hbl, hb, hno⟩
    · rw [List.getElem?_append_right (by rw [setAll_len]; omega), setAll_len, List.getElem?_map, List.getElem?_drop] at hb
      cases hq : mem'[mem0.length + (b - mem.length)]? with
      | none => rw [hq] at hb; cases hb
      | some x =>
        rw [hq] at hb
        simp only [Option.map_some, Option.some.injEq, Prod.mk.injEq] at hb
        obtain ⟨t, ht⟩ := hknew _ x hq
        have hql := getElem?_len hq
        refine .inl ⟨mem0.length + (b - mem.length), x.1, t, by rw [hq, ← ht], ?_, hb.1.symm, by rw [← hb.2, ht]⟩
        rw [hκnew _ (by omega)]
        omega
  have hownlt : ∀ x, x ∈ ownOf (ι.map fun b => ρ.getD b 0) mem0 → ∃ j cs t, mem0[j]? = some (cs, some t) ∧ x = ρ.getD (ι.getD j 0) 0 := fun x hx => by
    obtain ⟨j, cs, t, hj, rfl⟩ := ownOf_mem.1 hx
    exact ⟨j, cs, t, hj, frame_at hlen j (getElem?_len hj)⟩
  -- a block of the caller that the callee did not get to write
  have hstill : ∀ b, b < ρ.length → (∀ j cs' t, j < mem0.length → mem'[j]? = some (cs', some t) → ι.getD j 0 ≠ b) → ρ.getD b 0 ∉ ownOf (ι.map fun b => ρ.getD b 0) mem0 := fun b hb hno hin => by
    obtain ⟨j, cs, t, hj, he⟩ := hownlt _ hin
    obtain ⟨cs', hj'⟩ := hkmem j cs t hj
    exact hno j cs' t (getElem?_len hj) hj' (frame_inj hm hlen hnd hblk hj hb he.symm)
  have hsz : w.heap.size ≤ w'.heap.size := hm'.size
  refine ⟨hm'.os.trans hm.os, hm'.tape.trans hm.tape, hm'.output.trans hm.output, Nat.le_trans hm.size hsz, ?_, fun b hb => ?_, fun i j cs t hi hj he => ?_, fun b hb hnw => ?_, fun b cs t hb => ?_, fun b cs t hb => ?_, fun b cs hb => ?_, hm.lay⟩
  · unfold joinM
    simp [setAll_len, hm.len, hσ]
  · rcases List.mem_append.1 hb with hb | hb
    · exact Nat.lt_of_lt_of_le (hm.lt b hb) hsz
    · exact hm'.lt b (List.mem_append_right _ hb)
  · have hjl : j < mem.length + σ.length := by simpa [hm.len] using hj
    rcases hcase i cs _ hi with ⟨ki, cs', t', hki, rfl, _, _⟩ | ⟨hil, hi', hno⟩
    · have hkil := getElem?_len hki
      rw [← haddr ki hkil] at he
      -- is j one of the callee's?
      by_cases hjc : ∃ kj, kj < mem'.length ∧ κ.getD kj 0 = j
      · obtain ⟨kj, hkj, rfl⟩ := hjc
        rw [← haddr kj hkj] at he
        have := hm'.inj ki kj cs' t' hki (by rw [hm'.len]; exact hkj) he
        rw [this]
      · exfalso
        have hjm : j < mem.length := by
          rcases Nat.lt_or_ge j mem.length with h | h
          · exact h
          · exact absurd ⟨mem0.length + (j - mem.length), by omega, by rw [hκnew _ (by omega)]; omega⟩ hjc
        have hjr : j < ρ.length := by rw [hm.len]; exact hjm
        rw [hold j hjr] at he
        rcases hm'.fresh ki cs' t' hki with hin | hge'
        · obtain ⟨j', cs0, t0, hj', he'⟩ := hownlt _ hin
          rw [he] at he'
          have := frame_inj hm hlen hnd hblk hj' hjr he'.symm
          exact hjc ⟨j', by have := getElem?_len hj'; omega, by rw [hκold j' (getElem?_len hj')]; exact this⟩
        · have := hm.lt _ (getD_mem (d := 0) hjr)
          simp only at hge'
          omega
    · have hir : i < ρ.length := by rw [hm.len]; exact hil
      rw [hold i hir] at he
      by_cases hjm : j < mem.length
      · have hjr : j < ρ.length := by rw [hm.len]; exact hjm
        rw [hold j hjr] at he
        exact hm.inj i j cs t hi' hjr he
      · exfalso
        have hq : mem0.length + (j - mem.length) < mem'.length := by omega
        have hjk : κ.getD (mem0.length + (j - mem.length)) 0 = j := by rw [hκnew _ (by omega)]; omega
        rw [← hjk, ← haddr _ hq] at he
        obtain ⟨x, hx⟩ : ∃ x, mem'[mem0.length + (j - mem.length)]? = some x := ⟨_, List.getElem?_eq_getElem hq⟩
        obtain ⟨t', ht'⟩ := hknew _ x hx
        have hx' : mem'[mem0.length + (j - mem.length)]? = some (x.1, some t') := by rw [hx, ← ht']
        rcases hm'.fresh _ _ _ hx' with hin | hge'
        · rw [← he] at hin
          exact hstill i hir hno hin
        · have := hm.lt _ (getD_mem (d := 0) hir)
          simp only at hge'
          omega
  · have hbw : b < w.heap.size := Nat.lt_of_lt_of_le hb hm.size
    rw [hm'.old b hbw fun hin => by
      obtain ⟨j, cs, t, hj, rfl⟩ := hownlt _ hin
      obtain ⟨kd', h1, h2, _⟩ := hblk j cs _ hj
      rw [h2 t rfl] at h1
      rcases hm.fresh _ _ _ h1 with h3 | h3
      · exact hnw h3
      · omega]
    exact hm.old b hb hnw
  · rcases hcase b cs _ hb with ⟨k, cs', t', hk', rfl, _, _⟩ | ⟨hbl, hb', _⟩
    · rw [← haddr k (getElem?_len hk')]
      rcases hm'.fresh k cs' t' hk' with hin | hge'
      · obtain ⟨j, cs0, t0, hj, he⟩ := hownlt _ hin
        obtain ⟨kd', h1, h2, _⟩ := hblk j cs0 _ hj
        rw [h2 t0 rfl] at h1
        rw [he]
        exact hm.fresh _ _ _ h1
      · have := hm.size
        simp only at hge'
        exact .inr (by omega)
    · rw [hold b (by rw [hm.len]; exact hbl)]
      exact hm.fresh b cs t hb'
  · rcases hcase b cs _ hb with ⟨k, cs', t', hk', rfl, rfl, hkt⟩ | ⟨hbl, hb', hno⟩
    · cases hkt
      obtain ⟨h1, h2⟩ := hm'.own k cs' t hk'
      rw [← haddr k (getElem?_len hk'), h1]
      refine ⟨?_, fun v hv => ?_⟩
      · rw [List.map_map]
        congr 3
        exact List.map_congr_left fun v hv => (hconc v (h2 v hv)).symm
      · obtain ⟨u, hu, rfl⟩ := List.mem_map.1 hv
        refine ok0_conc0 (by rw [hκl, ← hm'.len]; exact h2 u hu) fun b hb => ?_
        rw [List.length_append]
        obtain ⟨j, hj, rfl⟩ := List.getElem_of_mem hb
        have hjl : j < mem'.length := by omega
        have e : κ[j] = κ.getD j 0 := by simp [List.getD, hj]
        rw [e]
        by_cases hj0 : j < mem0.length
        · rw [hκold j hj0]
          have := hιl j hj0
          omega
        · have := hκnew (j - mem0.length) (by omega)
          rw [show mem0.length + (j - mem0.length) = j by omega] at this
          rw [this, hm.len, hσ]
          omega
    · have hbr : b < ρ.length := by rw [hm.len]; exact hbl
      obtain ⟨h1, h2⟩ := hm.own b cs t hb'
      rw [hold b hbr, hm'.old _ (hm.lt _ (getD_mem hbr)) (hstill b hbr hno), h1]
      exact ⟨by rw [map_ext0 h2], fun v hv => ok0_mono (by simp) (h2 v hv)⟩
  · rcases hcase b cs _ hb with ⟨_, _, _, _, _, _, hkt⟩ | ⟨hbl, hb', hno⟩
    · cases hkt
    · intro hne
      have hbr : b < ρ.length := by rw [hm.len]; exact hbl
      obtain ⟨h1, h2, h3, h4⟩ := hm.ro b cs hb' hne
      rw [hold b hbr]
      exact ⟨h1, h2, fun i v hv hw => by rw [conc0_ext (h4 v (List.mem_of_getElem? hv))]; exact h3 i v hv hw, fun v hv => ok0_mono (by simp) (h4 v hv)⟩
end

/-- The frame rule. -/
theorem CallOK.frame {P : Program} {f : Nat} {args0 args : List Value} {mem0 mem : Mem} {R k : Value → Mem → Prop} (h : CallOK P f args0 mem0 R) (ι : List Nat) (hargs : args = args0.map (conc ι))
    (hok : ∀ v ∈ args0, ok2 mem0.length v) (hlen : ι.length = mem0.length) (hnd : ι.Nodup) (hblk : BlkOk ι mem mem0)
    (hk : ∀ v mem', R v mem' → kindsB (mem0.map (·.2)) (mem'.map (·.2)) = true ∧ k (conc (iotaL ι mem.length (mem'.length - mem0.length)) v) (joinM mem ι mem0.length mem')) : CallOK P f args mem k :=
  ⟨h.enters, fun w0 ρ w hm hargs' => by
    have hrun := h.run _ _ w (frame_start hm hlen hnd hblk) (fun v hv => by rw [List.length_map, hlen]; exact hok v hv)
    have e1 : args.map (conc ρ) = args0.map (conc (ι.map fun b => ρ.getD b 0)) := by
      rw [hargs, List.map_map]
      exact List.map_congr_left fun v hv => conc_conc (by rw [hlen]; exact hok v hv)
    rw [e1]
    refine hrun.mono fun e w' ⟨v, mem', σ, h1, h2, h3, h4⟩ => ?_
    obtain ⟨h5, h6⟩ := hk v mem' h4
    have hge : mem0.length ≤ mem'.length := by have := kindsB_len h5; simpa using this
    have hσ : σ.length = mem'.length - mem0.length := by have := h3.len; simp [hlen] at this; omega
    have hend := frame_end hm hlen hnd hblk h5 h3
    have hκm := iota_map (σ := σ) hm hlen hblk hσ
    have hκl : (iotaL ι mem.length (mem'.length - mem0.length)).length = mem'.length := iota_len hlen hge
    have hokv : ok2 (iotaL ι mem.length (mem'.length - mem0.length)).length v := by rw [hκl, ← h3.len]; exact h2
    refine ⟨_, _, σ, ?_, ?_, hend, h6⟩
    · rw [h1, conc_conc hokv, hκm]
    · refine ok2_conc hokv fun b hb => ?_
      have hl := hend.len
      rw [hl]
      unfold joinM
      simp only [List.length_append, setAll_len, List.length_map, List.length_drop]
      rcases List.mem_append.1 hb with hb | hb
      · obtain ⟨j, hj, rfl⟩ := List.getElem_of_mem hb
        have := frame_lt hm hblk (List.getElem?_eq_getElem (show j < mem0.length by omega))
        have e : ι.getD j 0 = ι[j] := by simp [List.getD, hj]
        rw [e, hm.len] at this
        omega
      · rw [List.mem_range'] at hb
        obtain ⟨q, hq, rfl⟩ := hb
        omega⟩

/-- The callee's blocks among the caller's, one by one. -/
def blkL (κ : List Nat) (mem : Mem) (n : Nat) : List Nat → Mem → Prop
  | [], [] => True
  | b :: ι, (cs, kd) :: m0 => (∃ cs' kd', mem[b]? = some (cs', kd') ∧ cs' = cs.map (conc0 κ) ∧ (∀ t, kd = some t → kd' = some t) ∧ ∀ v ∈ cs, ok0 n v) ∧ blkL κ mem n ι m0
  | _, _ => False

theorem blkL_spec {κ : List Nat} {mem : Mem} {n : Nat} : ∀ {ι : List Nat} {m0 : Mem}, blkL κ mem n ι m0 → ι.length = m0.length ∧
    ∀ j cs kd, m0[j]? = some (cs, kd) → ∃ kd', mem[ι.getD j 0]? = some (cs.map (conc0 κ), kd') ∧ (∀ t, kd = some t → kd' = some t) ∧ ∀ v ∈ cs, ok0 n v
  | [], [], _ => ⟨rfl, fun j cs kd h => by simp at h⟩
  | [], _ :: _, h => h.elim
  | _ :: _, [], h => h.elim
  | b :: ι, (cs, kd) :: m0, h => by
    obtain ⟨⟨cs', kd', h1, rfl, h3, h4⟩, h5⟩ := h
    obtain ⟨h6, h7⟩ := blkL_spec h5
    refine ⟨by simp [h6], fun j cs2 kd2 hj => ?_⟩
    cases j with
    | zero =>
      simp at hj
      obtain ⟨rfl, rfl⟩ := hj
      exact ⟨kd', by simpa using h1, h3, h4⟩
    | succ j =>
      obtain ⟨kd3, h8⟩ := h7 j cs2 kd2 (by simpa using hj)
      exact ⟨kd3, by simpa using h8⟩

def nodupB : List Nat → Bool
  | [] => true
  | b :: l => (l.all fun c => !Nat.beq b c) && nodupB l
theorem nodupB_spec : ∀ {l : List Nat}, nodupB l = true → l.Nodup
  | [], _ => List.nodup_nil
  | b :: l, h => by
    simp only [nodupB, Bool.and_eq_true, List.all_eq_true, Bool.not_eq_true'] at h
    refine List.nodup_cons.2 ⟨fun hb => ?_, nodupB_spec h.2⟩
    have := h.1 b hb
    rw [Nat.beq_refl] at this
    cases this

theorem CallOK.use {P : Program} {f : Nat} {args0 args : List Value} {mem0 mem : Mem} {R k : Value → Mem → Prop} (h : CallOK P f args0 mem0 R) (ι : List Nat) (hargs : args0.map (conc ι) = args)
    (hok : allL (okB1 mem0.length) args0 = true) (hnd : nodupB ι = true) (hblk : blkL ι mem mem0.length ι mem0)
    (hk : ∀ v mem', R v mem' → kindsB (mem0.map (·.2)) (mem'.map (·.2)) = true ∧ k (conc (iotaL ι mem.length (mem'.length - mem0.length)) v) (joinM mem ι mem0.length mem')) : CallOK P f args mem k := by
  obtain ⟨h1, h2⟩ := blkL_spec hblk
  exact h.frame ι hargs.symm (fun v hv => okB1_spec (allL_spec hok v hv)) h1 (nodupB_spec hnd) h2 hk

theorem pl0 {cs : List Value} {n : Nat} (h : allL plain0 cs = true) : ∀ v ∈ cs, ok0 n v := fun v hv => (plain0_ok (allL_spec h v hv) _ []).1

/-- A callee that is given no memory. -/
theorem CallOK.use0 {P : Program} {f : Nat} {args : List Value} {mem : Mem} {R k : Value → Mem → Prop} (h : CallOK P f args [] R) (hp : allL plain args = true)
    (hk : ∀ v mem', R v mem' → kindsB [] (mem'.map (·.2)) = true ∧ k (conc (List.range' mem.length mem'.length) v) (mem ++ mem'.map fun b => (b.1.map (conc0 (List.range' mem.length mem'.length)), b.2))) : CallOK P f args mem k :=
  h.frame [] (map_conc_plain hp []).symm (fun v hv => (plain_ok (allL_spec hp v hv) _ []).1) rfl List.nodup_nil (fun j cs kd hj => by simp at hj) (fun v mem' hr => by
    obtain ⟨h1, h2⟩ := hk v mem' hr
    refine ⟨h1, ?_⟩
    have e1 : iotaL [] mem.length (mem'.length - ([] : Mem).length) = List.range' mem.length mem'.length := by simp [iotaL]
    have e2 : joinM mem [] ([] : Mem).length mem' = mem ++ mem'.map fun b => (b.1.map (conc0 (List.range' mem.length mem'.length)), b.2) := by
      unfold joinM
      rw [e1]
      have : setAll (List.range' mem.length mem'.length) mem [] mem' = mem := by cases mem' <;> rfl
      rw [this]
      simp
    rw [e1, e2]
    exact h2)

end Go.Ev
