/-
  The evaluator: forgetting of blocks and slots.
  Conditions: none.
-/
import Derived.Test.YtlkbfpklhncfbaaGreatDoorEvCode
set_option linter.unusedVariables false
set_option linter.unusedSimpArgs false
namespace Go.Ev
open Go.RowKit

/-! ### Forgetting: blocks that are no more wanted leave the local memory; slots that are no more wanted are not told -/

/-- The numbers, among the old blocks, of those that are kept: the first m0, and those of κ. -/
def keepL (m0 : Nat) (κ : List Nat) : List Nat := List.range' 0 m0 ++ κ

/-- A block behind forgetting, and ahead of it. -/
inductive BlkR (κ : List Nat) (n : Nat) (old new : Blk) : Prop
  | plain (h : old.1 = new.1) (hk : old.2 = new.2) (hp : Plain new.1)
  | lit (h : old.1 = new.1.map (conc0 κ)) (hk : old.2 = new.2) (ho : ∀ v ∈ new.1, ok0 n v)

theorem BlkR.spec {κ : List Nat} {n : Nat} {old new : Blk} (h : BlkR κ n old new) : old.1 = new.1.map (conc0 κ) ∧ old.2 = new.2 ∧ ∀ v ∈ new.1, ok0 n v := by
  cases h with
  | plain h hk hp => exact ⟨by rw [hp.map, h], hk, hp.ok n⟩
  | lit h hk ho => exact ⟨h, hk, ho⟩

structure BlkAt (κ : List Nat) (n : Nat) (mem : Mem) (b : Nat) (new : Blk) : Prop where
  ex : ∃ old, mem[b]? = some old ∧ BlkR κ n old new

def memR (κ : List Nat) (n : Nat) (mem : Mem) : List Nat → Mem → Prop
  | [], [] => True
  | b :: κ', new :: mem' => BlkAt κ n mem b new ∧ memR κ n mem κ' mem'
  | _, _ => False

theorem memR_spec {κ : List Nat} {n : Nat} {mem : Mem} : ∀ {κ' : List Nat} {mem' : Mem}, memR κ n mem κ' mem' → κ'.length = mem'.length ∧
    ∀ (j : Nat) (new : Blk), mem'[j]? = some new → ∃ old, mem[κ'.getD j 0]? = some old ∧ BlkR κ n old new
  | [], [], _ => ⟨rfl, fun j new h => by simp at h⟩
  | [], _ :: _, h => h.elim
  | _ :: _, [], h => h.elim
  | b :: κ', c :: mem', h => by
    obtain ⟨h1, h2⟩ := memR_spec h.2
    refine ⟨by simp [h1], fun j new hj => ?_⟩
    cases j with
    | zero =>
      simp at hj
      subst hj
      simpa using h.1.ex
    | succ j => simpa using h2 j new (by simpa using hj)

/-- A slot behind forgetting, and ahead of it. -/
structure SlotR (κ : List Nat) (n : Nat) (old new : Value) : Prop where
  eq : old = conc κ new
  ok : ok2 n new
def tmR (κ : List Nat) (n : Nat) : List Value → List Value → Prop
  | [], [] => True
  | v :: tm, v' :: tm' => match isWild v' with
    | true => tmR κ n tm tm'
    | false => SlotR κ n v v' ∧ tmR κ n tm tm'
  | _, _ => False

theorem tmR_spec {κ : List Nat} {n : Nat} : ∀ {tm tm' : List Value}, tmR κ n tm tm' → tm.length = tm'.length ∧
    ∀ (i : Nat) v', tm'[i]? = some v' → isWild v' = false → ∃ v, tm[i]? = some v ∧ v = conc κ v' ∧ ok2 n v'
  | [], [], _ => ⟨rfl, fun i v h => by simp at h⟩
  | [], _ :: _, h => h.elim
  | _ :: _, [], h => h.elim
  | v :: tm, v' :: tm', h => by
    unfold tmR at h
    split at h
    · rename_i hw
      obtain ⟨h1, h2⟩ := tmR_spec h
      refine ⟨by simp [h1], fun i u hu hwu => ?_⟩
      cases i with
      | zero => simp at hu; subst hu; rw [hw] at hwu; cases hwu
      | succ i => simpa using h2 i u (by simpa using hu) hwu
    · obtain ⟨h1, h2⟩ := tmR_spec h.2
      refine ⟨by simp [h1], fun i u hu hwu => ?_⟩
      cases i with
      | zero => simp at hu; subst hu; exact ⟨v, by simp, h.1.eq, h.1.ok⟩
      | succ i => simpa using h2 i u (by simpa using hu) hwu

/-- The slots of tm', renamed; those that tm' does not tell, as tm has them. -/
def mixL (κ : List Nat) : List Value → List Value → List Value
  | v' :: tm', v :: tm => (match isWild v' with
    | true => v
    | false => conc κ v') :: mixL κ tm' tm
  | [], _ => []
  | _ :: _, [] => [undef]
theorem tmR_of {κ : List Nat} {n : Nat} : ∀ {tm tm' : List Value}, tm = mixL κ tm' tm → (∀ v ∈ tm', ok2 n v) → tmR κ n tm tm'
  | [], [], _, _ => trivial
  | [], _ :: _, h, _ => by simp [mixL] at h
  | _ :: _, [], h, _ => by simp [mixL] at h
  | v :: tm, v' :: tm', h, ho => by
    simp only [mixL, List.cons.injEq] at h
    unfold tmR
    cases hw : isWild v' with
    | true => exact tmR_of h.2 fun u hu => ho u (List.mem_cons_of_mem _ hu)
    | false =>
      rw [hw] at h
      exact ⟨⟨h.1, ho v' List.mem_cons_self⟩, tmR_of h.2 fun u hu => ho u (List.mem_cons_of_mem _ hu)⟩

theorem wild_conc {κ : List Nat} {v : Value} (h : isWild v = false) : isWild (conc κ v) = false := by
  cases v with
  | pointer a => cases a <;> rfl
  | slice a n c => cases a <;> rfl
  | float _ _ => cases h
  | _ => rfl

def ltAll (n : Nat) : List Nat → Bool
  | [] => true
  | b :: l => Nat.blt b n && ltAll n l
theorem ltAll_spec {n : Nat} : ∀ {l : List Nat}, ltAll n l = true → ∀ b ∈ l, b < n
  | [], _, b, hb => by cases hb
  | c :: l, h, b, hb => by
    simp only [ltAll, Bool.and_eq_true] at h
    rcases List.mem_cons.1 hb with rfl | hb
    · exact Nat.le_of_ble_eq_true h.1
    · exact ltAll_spec h.2 b hb
def nodupN : List Nat → Bool
  | [] => true
  | b :: l => (l.all fun c => !Nat.beq b c) && nodupN l
theorem nodupN_spec : ∀ {l : List Nat}, nodupN l = true → l.Nodup
  | [], _ => List.nodup_nil
  | b :: l, h => by
    simp only [nodupN, Bool.and_eq_true, List.all_eq_true, Bool.not_eq_true'] at h
    refine List.nodup_cons.2 ⟨fun hb => ?_, nodupN_spec h.2⟩
    have := h.1 b hb
    rw [Nat.beq_refl] at this
    cases this

theorem map_getD {κ ρ : List Nat} {j : Nat} (hj : j < κ.length) : (κ.map fun b => ρ.getD b 0).getD j 0 = ρ.getD (κ.getD j 0) 0 := by
  simp [List.getD, hj]

theorem concb_two {ι ρ : List Nat} {v : Value} (h : okb ι.length v) : concb ρ (concb ι v) = concb (ι.map fun b => ρ.getD b 0) v := by
  cases v with
  | pointer a =>
    cases a with
    | none => rfl
    | some a => simp only [concb, cAddr]; rw [map_getD h]
  | _ => rfl
theorem conc0_two {ι ρ : List Nat} {v : Value} (h : ok0 ι.length v) : conc0 ρ (conc0 ι v) = conc0 (ι.map fun b => ρ.getD b 0) v := by
  cases v with
  | func f first cap =>
    simp only [conc0]
    congr 1
    congr 1
    rw [List.map_map]
    exact List.map_congr_left fun v hv => concb_two (h v hv)
  | pointer a =>
    cases a with
    | none => rfl
    | some a => simp only [conc0, cAddr]; rw [map_getD h]
  | slice a n c =>
    cases a with
    | none => rfl
    | some a => simp only [conc0, cAddr]; rw [map_getD h]
  | _ => rfl
theorem conc1_two {ι ρ : List Nat} {v : Value} (h : ok1 ι.length v) : conc1 ρ (conc1 ι v) = conc1 (ι.map fun b => ρ.getD b 0) v := by
  cases v with
  | agg cs =>
    simp only [conc1]
    congr 1
    congr 1
    rw [List.map_map]
    exact List.map_congr_left fun v hv => conc0_two (h v hv)
  | pointer a => cases a with
    | none => rfl
    | some a => exact conc0_two (ρ := ρ) (v := .pointer (some a)) h
  | slice a n c => cases a with
    | none => rfl
    | some a => exact conc0_two (ρ := ρ) (v := .slice (some a) n c) h
  | func f first cap => exact conc0_two (ρ := ρ) (v := .func f first cap) h
  | _ => rfl
theorem conc_two {ι ρ : List Nat} {v : Value} (h : ok2 ι.length v) : conc ρ (conc ι v) = conc (ι.map fun b => ρ.getD b 0) v := by
  cases v with
  | tuple cs =>
    simp only [conc]
    congr 1
    congr 1
    rw [List.map_map]
    exact List.map_congr_left fun v hv => conc1_two (h v hv)
  | agg cs => exact conc1_two (ρ := ρ) (v := .agg cs) h
  | pointer a => cases a with
    | none => rfl
    | some a => exact conc0_two (ρ := ρ) (v := .pointer (some a)) h
  | slice a n c => cases a with
    | none => rfl
    | some a => exact conc0_two (ρ := ρ) (v := .slice (some a) n c) h
  | func f first cap => exact conc0_two (ρ := ρ) (v := .func f first cap) h
  | _ => rfl

/-- What a memory has to be for another to come of it by forgetting. -/
structure MemR (m0 : Nat) (κ : List Nat) (mem mem' : Mem) : Prop where
  lt : ltAll mem.length (keepL m0 κ) = true
  nodup : nodupN (keepL m0 κ) = true
  blk : memR (keepL m0 κ) mem'.length mem (keepL m0 κ) mem'

theorem MemAt.forget {w0 : Base} {w : World} {ρ : List Nat} {mem mem' : Mem} {m0 : Nat} {κ : List Nat} (h : MemAt w0 ρ mem w) (hR : MemR m0 κ mem mem') :
    MemAt w0 ((keepL m0 κ).map fun b => ρ.getD b 0) mem' w := by
  obtain ⟨hl, hb⟩ := memR_spec hR.blk
  have hlt := ltAll_spec hR.lt
  have hnd := nodupN_spec hR.nodup
  generalize keepL m0 κ = ι at *
  have hat : ∀ j, j < ι.length → (ι.map fun b => ρ.getD b 0).getD j 0 = ρ.getD (ι.getD j 0) 0 := fun j hj => map_getD hj
  have hltj : ∀ j, j < ι.length → ι.getD j 0 < mem.length := fun j hj => hlt _ (getD_mem hj)
  have hblk : ∀ (j : Nat) (cs : List Value) (kd : Option Nat), mem'[j]? = some (cs, kd) → j < ι.length ∧ mem[ι.getD j 0]? = some (cs.map (conc0 ι), kd) ∧ ∀ v ∈ cs, ok0 ι.length v := fun j cs kd hj => by
    obtain ⟨old, h1, h2⟩ := hb j _ hj
    obtain ⟨h3, h4, h5⟩ := h2.spec
    refine ⟨by rw [hl]; exact getElem?_len hj, ?_, by rw [hl]; exact h5⟩
    rw [h1]
    simp only at h3 h4
    rw [← h3, ← h4]
  have hconc : ∀ cs : List Value, (∀ v ∈ cs, ok0 ι.length v) → (cs.map (conc0 ι)).map (conc0 ρ) = cs.map (conc0 (ι.map fun b => ρ.getD b 0)) := fun cs hcs => by
    rw [List.map_map]
    exact List.map_congr_left fun v hv => conc0_two (hcs v hv)
  exact {
    lay := h.lay
    os := h.os
    tape := h.tape
    output := h.output
    size := h.size
    len := by rw [List.length_map, hl]
    lt := fun b hb' => by
      obtain ⟨x, hx, rfl⟩ := List.mem_map.1 hb'
      exact h.lt _ (getD_mem (by rw [h.len]; exact hlt x hx))
    inj := fun i j cs t hi hj he => by
      have hj' : j < ι.length := by simpa using hj
      obtain ⟨hi1, hi2, _⟩ := hblk i cs _ hi
      rw [hat i hi1, hat j hj'] at he
      have := h.inj _ _ _ t hi2 (by rw [h.len]; exact hltj j hj') he
      have e1 : ι[i] = ι[j] := by simpa [List.getD, hi1, hj'] using this
      exact (List.getElem_inj hnd).1 e1
    old := h.old
    fresh := fun k cs t hk => by
      obtain ⟨h1, h2, _⟩ := hblk k cs _ hk
      rw [hat k h1]
      exact h.fresh _ _ _ h2
    own := fun k cs t hk => by
      obtain ⟨h1, h2, h3⟩ := hblk k cs _ hk
      rw [hat k h1]
      obtain ⟨h4, _⟩ := h.own _ _ _ h2
      rw [h4, hconc cs h3, List.length_map]
      exact ⟨rfl, h3⟩
    ro := fun k cs hk hne => by
      obtain ⟨h1, h2, h3⟩ := hblk k cs _ hk
      rw [hat k h1]
      obtain ⟨h4, h5, h6, _⟩ := h.ro _ _ h2 (fun e => hne (List.map_eq_nil_iff.1 e))
      refine ⟨h4, h5, fun i v hv hw => ?_, by rw [List.length_map]; exact h3⟩
      have := h6 i (conc0 ι v) (by simp [hv]) (wild_conc0 hw)
      rw [conc0_two (h3 v (List.mem_of_getElem? hv))] at this
      exact this }

theorem TmAt.forget {ρ : List Nat} {tm tm' : List Value} {a : Act} {ι : List Nat} {n : Nat} (h : TmAt ρ tm a) (hn : n = ι.length) (hR : tmR ι n tm tm') : TmAt (ι.map fun b => ρ.getD b 0) tm' a := by
  subst hn
  obtain ⟨hl, ht⟩ := tmR_spec hR
  refine ⟨by rw [h.size, hl], fun i v' hv' hw => ?_, h.defers⟩
  obtain ⟨v, h1, rfl, h3⟩ := ht i v' hv' hw
  obtain ⟨h4, _⟩ := h.get i _ h1 (wild_conc hw)
  refine ⟨by rw [h4, conc_two h3], by rw [List.length_map]; exact h3⟩

theorem keep_map {m0 : Nat} {κ ρ0 σ : List Nat} (h : ρ0.length = m0) : (keepL m0 κ).map (fun b => (ρ0 ++ σ).getD b 0) = ρ0 ++ κ.map fun b => (ρ0 ++ σ).getD b 0 := by
  unfold keepL
  rw [List.map_append]
  congr 1
  apply List.ext_getElem?
  intro j
  by_cases hj : j < m0
  · rw [List.getElem?_map, List.getElem?_range' hj]
    have hj' : j < ρ0.length := by omega
    simp [List.getD, List.getElem?_append_left, hj']
  · rw [List.getElem?_eq_none (by simp; omega), List.getElem?_eq_none (by omega)]

/-- The state (tm', mem') comes of (tm, mem) by forgetting. -/
structure Forget (m0 : Nat) (κ : List Nat) (tm : List Value) (mem : Mem) (tm' : List Value) (mem' : Mem) : Prop where
  m : MemR m0 κ mem mem'
  t : tmR (keepL m0 κ) mem'.length tm tm'

theorem Forget.sound {m0 : Nat} {κ : List Nat} {tm tm' : List Value} {mem mem' : Mem} (h : Forget m0 κ tm mem tm' mem') {w0 : Base} {ρ0 σ : List Nat} (hl : ρ0.length = m0) {a : Act} {w : World}
    (ha : TmAt (ρ0 ++ σ) tm a) (hm : MemAt w0 (ρ0 ++ σ) mem w) : ∃ σ', TmAt (ρ0 ++ σ') tm' a ∧ MemAt w0 (ρ0 ++ σ') mem' w := by
  have h1 := hm.forget h.m
  have h2 := ha.forget (memR_spec h.m.blk).1.symm h.t
  rw [keep_map hl] at h1 h2
  exact ⟨_, h2, h1⟩


end Go.Ev
