/-
  The evaluator, part 8: code and loops; functions; contracts of functions.
  Conditions: none.
-/
import Derived.Test.YtlkbfpklhncfbaaEvTop
set_option linter.unusedVariables false
set_option linter.unusedSimpArgs false
namespace Go.Ev
open Go.RowKit

abbrev Post := Exit → List Value → Mem → Prop

/-! ### Forgetting: blocks that are no more wanted leave the local memory; slots that are no more wanted are not told -/

/-- The numbers, among the old blocks, of those that are kept: the first m0, and those of κ. -/
def keepL (m0 : Nat) (κ : List Nat) : List Nat := List.range' 0 m0 ++ κ

/-- A block behind forgetting, and ahead of it. -/
inductive BlkR (κ : List Nat) (n : Nat) (old new : Blk) : Prop
  | plain (h : old.1 = new.1) (hk : old.2 = new.2) (hp : Plain new.1)
  | lit (h : old.1 = new.1.map (conc0 κ)) (hk : old.2 = new.2) (ho : ∀ v ∈ new.1, ok0 n v)

theorem BlkR.spec {κ : List Nat} {n : Nat} {old new : Blk} (h : BlkR κ n old new) : old.1 = new.1.map (conc0 κ) ∧ old.2 = new.2 ∧ ∀ v ∈ new.1, ok0 n v := by
  cases h with
  | plain h hk hp => exact ⟨by rw [hp.map, h], hk, hp.ok n⟩
  | lit h hk ho => exact ⟨h, hk, ho⟩

structure BlkAt (κ : List Nat) (n : Nat) (mem : Mem) (b : Nat) (new : Blk) : Prop where
  ex : ∃ old, mem[b]? = some old ∧ BlkR κ n old new

def memR (κ : List Nat) (n : Nat) (mem : Mem) : List Nat → Mem → Prop
  | [], [] => True
  | b :: κ', new :: mem' => BlkAt κ n mem b new ∧ memR κ n mem κ' mem'
  | _, _ => False

theorem memR_spec {κ : List Nat} {n : Nat} {mem : Mem} : ∀ {κ' : List Nat} {mem' : Mem}, memR κ n mem κ' mem' → κ'.length = mem'.length ∧
    ∀ (j : Nat) (new : Blk), mem'[j]? = some new → ∃ old, mem[κ'.getD j 0]? = some old ∧ BlkR κ n old new
  | [], [], _ => ⟨rfl, fun j new h => by simp at h⟩
  | [], _ :: _, h => h.elim
  | _ :: _, [], h => h.elim
  | b :: κ', c :: mem', h => by
    obtain ⟨h1, h2⟩ := memR_spec h.2
    refine ⟨by simp [h1], fun j new hj => ?_⟩
    cases j with
    | zero =>
      simp at hj
      subst hj
      simpa using h.1.ex
    | succ j => simpa using h2 j new (by simpa using hj)

/-- A slot behind forgetting, and ahead of it. -/
structure SlotR (κ : List Nat) (n : Nat) (old new : Value) : Prop where
  eq : old = conc κ new
  ok : ok2 n new
def tmR (κ : List Nat) (n : Nat) : List Value → List Value → Prop
  | [], [] => True
  | v :: tm, v' :: tm' => match isWild v' with
    | true => tmR κ n tm tm'
    | false => SlotR κ n v v' ∧ tmR κ n tm tm'
  | _, _ => False

theorem tmR_spec {κ : List Nat} {n : Nat} : ∀ {tm tm' : List Value}, tmR κ n tm tm' → tm.length = tm'.length ∧
    ∀ (i : Nat) v', tm'[i]? = some v' → isWild v' = false → ∃ v, tm[i]? = some v ∧ v = conc κ v' ∧ ok2 n v'
  | [], [], _ => ⟨rfl, fun i v h => by simp at h⟩
  | [], _ :: _, h => h.elim
  | _ :: _, [], h => h.elim
  | v :: tm, v' :: tm', h => by
    unfold tmR at h
    split at h
    · rename_i hw
      obtain ⟨h1, h2⟩ := tmR_spec h
      refine ⟨by simp [h1], fun i u hu hwu => ?_⟩
      cases i with
      | zero => simp at hu; subst hu; rw [hw] at hwu; cases hwu
      | succ i => simpa using h2 i u (by simpa using hu) hwu
    · obtain ⟨h1, h2⟩ := tmR_spec h.2
      refine ⟨by simp [h1], fun i u hu hwu => ?_⟩
      cases i with
      | zero => simp at hu; subst hu; exact ⟨v, by simp, h.1.eq, h.1.ok⟩
      | succ i => simpa using h2 i u (by simpa using hu) hwu

/-- The slots of tm', renamed; those that tm' does not tell, as tm has them. -/
def mixL (κ : List Nat) : List Value → List Value → List Value
  | v' :: tm', v :: tm => (match isWild v' with
    | true => v
    | false => conc κ v') :: mixL κ tm' tm
  | [], _ => []
  | _ :: _, [] => [undef]
theorem tmR_of {κ : List Nat} {n : Nat} : ∀ {tm tm' : List Value}, tm = mixL κ tm' tm → (∀ v ∈ tm', ok2 n v) → tmR κ n tm tm'
  | [], [], _, _ => trivial
  | [], _ :: _, h, _ => by simp [mixL] at h
  | _ :: _, [], h, _ => by simp [mixL] at h
  | v :: tm, v' :: tm', h, ho => by
    simp only [mixL, List.cons.injEq] at h
    unfold tmR
    cases hw : isWild v' with
    | true => exact tmR_of h.2 fun u hu => ho u (List.mem_cons_of_mem _ hu)
    | false =>
      rw [hw] at h
      exact ⟨⟨h.1, ho v' List.mem_cons_self⟩, tmR_of h.2 fun u hu => ho u (List.mem_cons_of_mem _ hu)⟩

theorem wild_conc {κ : List Nat} {v : Value} (h : isWild v = false) : isWild (conc κ v) = false := by
  cases v with
  | pointer a => cases a <;> rfl
  | slice a n c => cases a <;> rfl
  | float _ _ => cases h
  | _ => rfl

def ltAll (n : Nat) : List Nat → Bool
  | [] => true
  | b :: l => Nat.blt b n && ltAll n l
theorem ltAll_spec {n : Nat} : ∀ {l : List Nat}, ltAll n l = true → ∀ b ∈ l, b < n
  | [], _, b, hb => by cases hb
  | c :: l, h, b, hb => by
    simp only [ltAll, Bool.and_eq_true] at h
    rcases List.mem_cons.1 hb with rfl | hb
    · exact Nat.le_of_ble_eq_true h.1
    · exact ltAll_spec h.2 b hb
def nodupN : List Nat → Bool
  | [] => true
  | b :: l => (l.all fun c => !Nat.beq b c) && nodupN l
theorem nodupN_spec : ∀ {l : List Nat}, nodupN l = true → l.Nodup
  | [], _ => List.nodup_nil
  | b :: l, h => by
    simp only [nodupN, Bool.and_eq_true, List.all_eq_true, Bool.not_eq_true'] at h
    refine List.nodup_cons.2 ⟨fun hb => ?_, nodupN_spec h.2⟩
    have := h.1 b hb
    rw [Nat.beq_refl] at this
    cases this

theorem map_getD {κ ρ : List Nat} {j : Nat} (hj : j < κ.length) : (κ.map fun b => ρ.getD b 0).getD j 0 = ρ.getD (κ.getD j 0) 0 := by
  simp [List.getD, hj]

theorem conc0_two {ι ρ : List Nat} {v : Value} (h : ok0 ι.length v) : conc0 ρ (conc0 ι v) = conc0 (ι.map fun b => ρ.getD b 0) v := by
  cases v with
  | pointer a =>
    cases a with
    | none => rfl
    | some a => simp only [conc0, cAddr]; rw [map_getD h]
  | slice a n c =>
    cases a with
    | none => rfl
    | some a => simp only [conc0, cAddr]; rw [map_getD h]
  | _ => rfl
theorem conc1_two {ι ρ : List Nat} {v : Value} (h : ok1 ι.length v) : conc1 ρ (conc1 ι v) = conc1 (ι.map fun b => ρ.getD b 0) v := by
  cases v with
  | agg cs =>
    simp only [conc1]
    congr 1
    congr 1
    rw [List.map_map]
    exact List.map_congr_left fun v hv => conc0_two (h v hv)
  | pointer a => cases a with
    | none => rfl
    | some a => exact conc0_two (ρ := ρ) (v := .pointer (some a)) h
  | slice a n c => cases a with
    | none => rfl
    | some a => exact conc0_two (ρ := ρ) (v := .slice (some a) n c) h
  | _ => rfl
theorem conc_two {ι ρ : List Nat} {v : Value} (h : ok2 ι.length v) : conc ρ (conc ι v) = conc (ι.map fun b => ρ.getD b 0) v := by
  cases v with
  | tuple cs =>
    simp only [conc]
    congr 1
    congr 1
    rw [List.map_map]
    exact List.map_congr_left fun v hv => conc1_two (h v hv)
  | agg cs => exact conc1_two (ρ := ρ) (v := .agg cs) h
  | pointer a => cases a with
    | none => rfl
    | some a => exact conc0_two (ρ := ρ) (v := .pointer (some a)) h
  | slice a n c => cases a with
    | none => rfl
    | some a => exact conc0_two (ρ := ρ) (v := .slice (some a) n c) h
  | _ => rfl

/-- What a memory has to be for another to come of it by forgetting. -/
structure MemR (m0 : Nat) (κ : List Nat) (mem mem' : Mem) : Prop where
  lt : ltAll mem.length (keepL m0 κ) = true
  nodup : nodupN (keepL m0 κ) = true
  blk : memR (keepL m0 κ) mem'.length mem (keepL m0 κ) mem'

theorem MemAt.forget {w0 : Base} {w : World} {ρ : List Nat} {mem mem' : Mem} {m0 : Nat} {κ : List Nat} (h : MemAt w0 ρ mem w) (hR : MemR m0 κ mem mem') :
    MemAt w0 ((keepL m0 κ).map fun b => ρ.getD b 0) mem' w := by
  obtain ⟨hl, hb⟩ := memR_spec hR.blk
  have hlt := ltAll_spec hR.lt
  have hnd := nodupN_spec hR.nodup
  generalize keepL m0 κ = ι at *
  have hat : ∀ j, j < ι.length → (ι.map fun b => ρ.getD b 0).getD j 0 = ρ.getD (ι.getD j 0) 0 := fun j hj => map_getD hj
  have hltj : ∀ j, j < ι.length → ι.getD j 0 < mem.length := fun j hj => hlt _ (getD_mem hj)
  have hblk : ∀ (j : Nat) (cs : List Value) (kd : Option Nat), mem'[j]? = some (cs, kd) → j < ι.length ∧ mem[ι.getD j 0]? = some (cs.map (conc0 ι), kd) ∧ ∀ v ∈ cs, ok0 ι.length v := fun j cs kd hj => by
    obtain ⟨old, h1, h2⟩ := hb j _ hj
    obtain ⟨h3, h4, h5⟩ := h2.spec
    refine ⟨by rw [hl]; exact getElem?_len hj, ?_, by rw [hl]; exact h5⟩
    rw [h1]
    simp only at h3 h4
    rw [← h3, ← h4]
  have hconc : ∀ cs : List Value, (∀ v ∈ cs, ok0 ι.length v) → (cs.map (conc0 ι)).map (conc0 ρ) = cs.map (conc0 (ι.map fun b => ρ.getD b 0)) := fun cs hcs => by
    rw [List.map_map]
    exact List.map_congr_left fun v hv => conc0_two (hcs v hv)
  exact {
    os := h.os
    tape := h.tape
    output := h.output
    size := h.size
    len := by rw [List.length_map, hl]
    lt := fun b hb' => by
      obtain ⟨x, hx, rfl⟩ := List.mem_map.1 hb'
      exact h.lt _ (getD_mem (by rw [h.len]; exact hlt x hx))
    inj := fun i j cs t hi hj he => by
      have hj' : j < ι.length := by simpa using hj
      obtain ⟨hi1, hi2, _⟩ := hblk i cs _ hi
      rw [hat i hi1, hat j hj'] at he
      have := h.inj _ _ _ t hi2 (by rw [h.len]; exact hltj j hj') he
      have e1 : ι[i] = ι[j] := by simpa [List.getD, hi1, hj'] using this
      exact (List.getElem_inj hnd).1 e1
    old := h.old
    fresh := fun k cs t hk => by
      obtain ⟨h1, h2, _⟩ := hblk k cs _ hk
      rw [hat k h1]
      exact h.fresh _ _ _ h2
    own := fun k cs t hk => by
      obtain ⟨h1, h2, h3⟩ := hblk k cs _ hk
      rw [hat k h1]
      obtain ⟨h4, _⟩ := h.own _ _ _ h2
      rw [h4, hconc cs h3, List.length_map]
      exact ⟨rfl, h3⟩
    ro := fun k cs hk => by
      obtain ⟨h1, h2, h3⟩ := hblk k cs _ hk
      rw [hat k h1]
      obtain ⟨h4, h5, h6, _⟩ := h.ro _ _ h2
      refine ⟨h4, h5, fun i v hv => ?_, by rw [List.length_map]; exact h3⟩
      have := h6 i (conc0 ι v) (by simp [hv])
      rw [conc0_two (h3 v (List.mem_of_getElem? hv))] at this
      exact this }

theorem TmAt.forget {ρ : List Nat} {tm tm' : List Value} {a : Act} {ι : List Nat} {n : Nat} (h : TmAt ρ tm a) (hn : n = ι.length) (hR : tmR ι n tm tm') : TmAt (ι.map fun b => ρ.getD b 0) tm' a := by
  subst hn
  obtain ⟨hl, ht⟩ := tmR_spec hR
  refine ⟨by rw [h.size, hl], fun i v' hv' hw => ?_, h.defers⟩
  obtain ⟨v, h1, rfl, h3⟩ := ht i v' hv' hw
  obtain ⟨h4, _⟩ := h.get i _ h1 (wild_conc hw)
  refine ⟨by rw [h4, conc_two h3], by rw [List.length_map]; exact h3⟩

theorem keep_map {m0 : Nat} {κ ρ0 σ : List Nat} (h : ρ0.length = m0) : (keepL m0 κ).map (fun b => (ρ0 ++ σ).getD b 0) = ρ0 ++ κ.map fun b => (ρ0 ++ σ).getD b 0 := by
  unfold keepL
  rw [List.map_append]
  congr 1
  apply List.ext_getElem?
  intro j
  by_cases hj : j < m0
  · rw [List.getElem?_map, List.getElem?_range' hj]
    have hj' : j < ρ0.length := by omega
    simp [List.getD, List.getElem?_append_left, hj']
  · rw [List.getElem?_eq_none (by simp; omega), List.getElem?_eq_none (by omega)]

/-- The state (tm', mem') comes of (tm, mem) by forgetting. -/
structure Forget (m0 : Nat) (κ : List Nat) (tm : List Value) (mem : Mem) (tm' : List Value) (mem' : Mem) : Prop where
  m : MemR m0 κ mem mem'
  t : tmR (keepL m0 κ) mem'.length tm tm'

theorem Forget.sound {m0 : Nat} {κ : List Nat} {tm tm' : List Value} {mem mem' : Mem} (h : Forget m0 κ tm mem tm' mem') {w0 : Base} {ρ0 σ : List Nat} (hl : ρ0.length = m0) {a : Act} {w : World}
    (ha : TmAt (ρ0 ++ σ) tm a) (hm : MemAt w0 (ρ0 ++ σ) mem w) : ∃ σ', TmAt (ρ0 ++ σ') tm' a ∧ MemAt w0 (ρ0 ++ σ') mem' w := by
  have h1 := hm.forget h.m
  have h2 := ha.forget (memR_spec h.m.blk).1.symm h.t
  rw [keep_map hl] at h1 h2
  exact ⟨_, h2, h1⟩

/-! ### Code -/

/-- What comes behind a round of a loop: the same state, or one that comes of it by forgetting. -/
structure NextK (m0 : Nat) (L : List Value → Mem → Prop) (tm : List Value) (mem : Mem) : Prop where
  or : L tm mem ∨ ∃ κ tm' mem', Forget m0 κ tm mem tm' mem' ∧ L tm' mem'

theorem next_same {m0 : Nat} {L : List Value → Mem → Prop} {tm : List Value} {mem : Mem} (h : L tm mem) : NextK m0 L tm mem := ⟨.inl h⟩
theorem next_forget {m0 : Nat} {L : List Value → Mem → Prop} {tm tm' : List Value} {mem mem' : Mem} (κ : List Nat) (h : L tm' mem') (ht : tmR (keepL m0 κ) mem'.length tm tm')
    (hb : memR (keepL m0 κ) mem'.length mem (keepL m0 κ) mem') (hlt : ltAll mem.length (keepL m0 κ) = true) (hnd : nodupN (keepL m0 κ) = true) : NextK m0 L tm mem :=
  ⟨.inr ⟨κ, tm', mem', ⟨⟨hlt, hnd, hb⟩, ht⟩, h⟩⟩

noncomputable def loopN (m0 : Nat) (body : List Value → Mem → Post → Prop) (n : Nat) : List Value → Mem → Post → Prop :=
  @Nat.rec (fun _ => List Value → Mem → Post → Prop) (fun _ _ _ => False) (fun _ ih tm mem K => body tm mem fun e tm' mem' => match e with
    | .normal => NextK m0 (fun tm mem => ih tm mem K) tm' mem'
    | e => K e tm' mem') n

structure LoopK (m0 : Nat) (body : List Value → Mem → Post → Prop) (tm : List Value) (mem : Mem) (K : Post) : Prop where
  ex : ∃ n, loopN m0 body n tm mem K

theorem loop_n {m0 : Nat} {body : List Value → Mem → Post → Prop} {tm : List Value} {mem : Mem} {K : Post} (n : Nat) (h : loopN m0 body n tm mem K) : LoopK m0 body tm mem K := ⟨n, h⟩

/-- Forgetting ahead of a loop. -/
structure EnterK (m0 : Nat) (L : List Value → Mem → Prop) (tm : List Value) (mem : Mem) : Prop where
  or : NextK m0 L tm mem

noncomputable def ev (P : Program) (T : Tbl) (m0 : Nat) (c : Code) : List Value → Mem → Post → Prop :=
  @Code.rec (fun _ => List Value → Mem → Post → Prop)
    (fun tm mem K => K .normal tm mem)
    (fun _ ops draw tm mem K => match draw with
      | false => evOps P T ops.toList ops.toList tm mem (K .normal)
      | true => DrawK P T ops.toList tm mem (K .normal))
    (fun _ _ iha ihb tm mem K => iha tm mem fun e tm' mem' => match e with
      | .normal => ihb tm' mem' K
      | e => K e tm' mem')
    (fun c _ _ iha ihb tm mem K => opK tm c fun cv => match cv with
      | .bool x => brK x (iha tm mem K) (ihb tm mem K)
      | _ => False)
    (fun id _ ih tm mem K => ih tm mem fun e tm' mem' => match e with
      | .exit i => match Nat.beq i id with
        | true => K .normal tm' mem'
        | false => K (.exit i) tm' mem'
      | e => K e tm' mem')
    (fun _ ih tm mem K => EnterK m0 (fun tm mem => LoopK m0 ih tm mem K) tm mem)
    (fun _ _ _ _ _ _ _ _ _ => False)
    (fun id tm mem K => K (.exit id) tm mem)
    (fun _ _ _ _ _ => False)
    (fun _ _ _ _ => False)
    (fun _ _ _ _ => False)
    (fun tm mem K => K .ret tm mem)
    (fun _ _ _ _ => False) c

theorem ev_sound {P : Program} {T : Tbl} (hT : T.Ok P) (hmix : P.follows .mixedOrders = true) {w0 : Base} {m0 : Nat} {ρ0 : List Nat} (hρ : ρ0.length = m0) : ∀ (c : Code) {tm : List Value} {mem : Mem} {K : Post}, ev P T m0 c tm mem K →
    ∀ {σ : List Nat} {w : World} {a : Act}, TmAt (ρ0 ++ σ) tm a → MemAt w0 (ρ0 ++ σ) mem w → ∀ {Q : Exit → Act → World → Prop},
    (∀ e σ tm' mem' a' w', K e tm' mem' → TmAt (ρ0 ++ σ) tm' a' → MemAt w0 (ρ0 ++ σ) mem' w' → Q e a' w') → c.wp P Q a w := by
  intro c
  induction c with
  | skip =>
    intro tm mem K h σ w a ha hm Q hQ
    exact wp_skip (hQ .normal σ tm mem a w h ha hm)
  | region id ops draw =>
    intro tm mem K h σ w a ha hm Q hQ
    cases draw with
    | false =>
      refine wp_region_list ?_
      have := evOps_sound hT ops.toList h ha hm (Q := Q) (fun σ' tm' mem' a' w' hk ha' hm' => by
        rw [List.append_assoc] at ha' hm'
        exact hQ .normal (σ ++ σ') tm' mem' a' w' hk ha' hm')
      simpa using this
    | true =>
      have := drawK_sound hT hmix (id := id) h ha hm (Q := Q) (fun σ' tm' mem' a' w' hk ha' hm' => by
        rw [List.append_assoc] at ha' hm'
        exact hQ .normal (σ ++ σ') tm' mem' a' w' hk ha' hm')
      simpa using this
  | seq x y ihx ihy =>
    intro tm mem K h σ w a ha hm Q hQ
    refine wp_seq (ihx h ha hm fun e σ' tm' mem' a' w' hk ha' hm' => ?_)
    cases e with
    | normal => exact ihy hk ha' hm' hQ
    | _ => exact hQ _ σ' _ _ _ _ hk ha' hm'
  | cond c x y ihx ihy =>
    intro tm mem K h σ w a ha hm Q hQ
    obtain ⟨cv, h, hc⟩ := opK_sound (tm := tm) (x := c) h
    split at h
    · rename_i b
      have hcb : a.eval c = .bool b := (hc _ a ha).1
      rcases br_cases h with ⟨rfl, h⟩ | ⟨rfl, h⟩
      · exact wp_cond_true hcb (ihx h ha hm hQ)
      · exact wp_cond_false hcb (ihy h ha hm hQ)
    · exact h.elim
  | block id x ih =>
    intro tm mem K h σ w a ha hm Q hQ
    refine wp_block (ih h ha hm fun e σ' tm' mem' a' w' hk ha' hm' => ?_)
    cases e with
    | exit i =>
      simp only [Exit.inBlock]
      simp only at hk
      split at hk
      · rename_i hb
        rw [if_pos (Nat.eq_of_beq_eq_true hb)]
        exact hQ .normal σ' _ _ _ _ hk ha' hm'
      · rename_i hb
        rw [if_neg (fun e => by subst e; rw [Nat.beq_refl] at hb; cases hb)]
        exact hQ (.exit i) σ' _ _ _ _ hk ha' hm'
    | _ => exact hQ _ σ' _ _ _ _ hk ha' hm'
  | loop x ih =>
    have main : ∀ {tm : List Value} {mem : Mem} {K : Post}, LoopK m0 (fun tm mem K => ev P T m0 x tm mem K) tm mem K →
        ∀ {σ : List Nat} {w : World} {a : Act}, TmAt (ρ0 ++ σ) tm a → MemAt w0 (ρ0 ++ σ) mem w → ∀ {Q : Exit → Act → World → Prop},
        (∀ e σ tm' mem' a' w', K e tm' mem' → TmAt (ρ0 ++ σ) tm' a' → MemAt w0 (ρ0 ++ σ) mem' w' → Q e a' w') → (Code.loop x).wp P Q a w := by
      intro tm mem K h σ w a ha hm Q hQ
      obtain ⟨n, h'⟩ := h.ex
      clear h
      have h := h'
      clear h'
      refine wp_loop_rounds n ?_
      induction n generalizing tm mem σ w a with
      | zero => exact h.elim
      | succ n ihn =>
        rw [rounds_succ]
        refine ih h ha hm fun e σ' tm' mem' a' w' hk ha' hm' => ?_
        cases e with
        | normal =>
          rcases hk.or with hk' | ⟨κ, tm2, mem2, hf, hk'⟩
          · exact ihn ha' hm' hk'
          · obtain ⟨σ2, ha2, hm2⟩ := hf.sound hρ ha' hm'
            exact ihn ha2 hm2 hk'
        | _ => exact hQ _ σ' _ _ _ _ hk ha' hm'
    intro tm mem K h σ w a ha hm Q hQ
    rcases h.or.or with h | ⟨κ, tm2, mem2, hf, h⟩
    · exact main h ha hm hQ
    · obtain ⟨σ2, ha2, hm2⟩ := hf.sound hρ ha hm
      exact main h ha2 hm2 hQ
  | exit id =>
    intro tm mem K h σ w a ha hm Q hQ
    exact wp_exit (hQ (.exit id) σ tm mem a w h ha hm)
  | ret =>
    intro tm mem K h σ w a ha hm Q hQ
    exact wp_ret (hQ .ret σ tm mem a w h ha hm)
  | _ => intro tm mem K h; exact h.elim

/-! ## The results of a function -/

def notTup : Value → Bool
  | .tuple _ => false
  | _ => true

def resK (T : Tbl) : List ResultVar → List Value → Mem → (List Value → Prop) → Prop
  | [], _, _, k => k []
  | .tmp t :: rest, tm, mem, k => forceV (nthV tm t) fun v => wildK v (resK T rest tm mem fun vs => k (v :: vs))
  | .cell x t :: rest, tm, mem, k => forceV (nthV tm x) fun xv => match xv with
    | .pointer (some ⟨b, off, none⟩) => lookT T t fun ti => memK mem b fun blk => partK blk.1 off ti.size ti.sh.isAgg fun v => resK T rest tm mem fun vs => k (v :: vs)
    | _ => False

def outK (T : Tbl) (rs : List ResultVar) (tm : List Value) (mem : Mem) (k : Value → Prop) : Prop :=
  resK T rs tm mem fun vs => match vs with
    | [v] => k v
    | vs => match allL notTup vs with
      | true => k (.tuple vs.toArray)
      | false => False

def resRun (a : Act) (r : ResultVar) : Sem Value := match r with
  | .tmp t => pure (a.tmps.getD t undef)
  | .cell x t => do loadVar t (← asAddr (a.tmps.getD x undef))

theorem results_eq (fn : Func) (a : Act) : results fn a.tmps = (do
    let vs ← fn.results.mapM (resRun a)
    pure (if h : vs.size = 1 then vs[0] else .tuple vs)) := rfl

theorem resK_sound {P : Program} {T : Tbl} (hT : T.Ok P) : ∀ (rs : List ResultVar) {tm : List Value} {mem : Mem} {k : List Value → Prop}, resK T rs tm mem k →
    ∃ vs, k vs ∧ ∀ w0 ρ w a, TmAt ρ tm a → MemAt w0 ρ mem w → (∀ v ∈ vs, ok2 ρ.length v) ∧
      (rs.mapM (resRun a)).run P w = .ok (vs.map (conc ρ)) w
  | [], tm, mem, k, h => ⟨[], h, fun w0 ρ w a _ _ => ⟨fun v hv => (by cases hv), rfl⟩⟩
  | .tmp t :: rest, tm, mem, k, h => by
    unfold resK at h
    rw [forceV_eq] at h
    obtain ⟨hwi, h⟩ := wildK_spec h
    obtain ⟨vs, hk, hs⟩ := resK_sound hT rest h
    refine ⟨_, hk, fun w0 ρ w a ha hm => ?_⟩
    obtain ⟨h1, h2⟩ := hs w0 ρ w a ha hm
    obtain ⟨e1, e2⟩ := ha.eval t hwi
    refine ⟨fun v hv => ?_, ?_⟩
    · rcases List.mem_cons.1 hv with rfl | hv
      · exact e2
      · exact h1 v hv
    · rw [List.mapM_cons]
      have e3 : a.tmps.getD t undef = conc ρ (nthV tm t) := e1
      simp only [resRun, Sem.run_bind, Sem.run_pure, Result.andThen_ok, e3, List.map_cons]
      simp only [h2, Result.andThen_ok]
  | .cell x t :: rest, tm, mem, k, h => by
    unfold resK at h
    rw [forceV_eq] at h
    split at h
    · rename_i b off hx
      obtain ⟨ti, hti, rfl, h'⟩ := lookT_spec h
      clear h
      obtain ⟨blk, hb, h⟩ := memK_spec h'
      clear h'
      obtain ⟨v, h', hv⟩ := partK_sound h
      clear h
      obtain ⟨vs, hk, hs⟩ := resK_sound hT rest h'
      have hTi := hT ti hti
      refine ⟨_, hk, fun w0 ρ w a ha hm => ?_⟩
      obtain ⟨h1, h2⟩ := hs w0 ρ w a ha hm
      obtain ⟨e1, e2⟩ := ha.eval x (by rw [hx]; rfl)
      have e3 : a.tmps.getD x undef = .pointer (some ⟨ρ.getD b 0, off, none⟩) := by
        have : a.tmps.getD x undef = conc ρ (nthV tm x) := e1
        rw [this, hx]; rfl
      have hl : (loadVar ti.t ⟨ρ.getD b 0, off, none⟩).run P w = .ok (conc ρ v) w ∧ ok2 ρ.length v := by
        rcases hv with ⟨hag, l, hl, hn, rfl⟩ | ⟨hag, hv⟩
        · obtain ⟨g1, g2⟩ := hm.loadCells (P := P) hb hl hn
          refine ⟨?_, g2⟩
          simp only [Sem.run_bind, Sem.run_pure, Result.andThen_ok, loadVar, hTi.run_agg, hag, if_true, hTi.run_size, g1]
          rfl
        · obtain ⟨g1, g2⟩ := hm.cell hb hv
          refine ⟨?_, (ok0_conc g2).2⟩
          simp only [Sem.run_bind, Result.andThen_ok, loadVar, hTi.run_agg, hag, Bool.false_eq_true, if_false, run_load, g1, (ok0_conc g2).1]
      refine ⟨fun u hu => ?_, ?_⟩
      · rcases List.mem_cons.1 hu with rfl | hu
        · exact hl.2
        · exact h1 u hu
      · rw [List.mapM_cons]
        have e4 : (resRun a (.cell x ti.t)).run P w = .ok (conc ρ v) w := by
          simp only [resRun, e3, asAddr, Sem.run_bind, Sem.run_pure, Result.andThen_ok, hl.1]
        simp only [Sem.run_bind, e4, Sem.run_pure, Result.andThen_ok, h2, List.map_cons]
    · exact h.elim

theorem ok2_notTup {n : Nat} {v : Value} (h : ok2 n v) (hn : notTup v = true) : ok1 n v := by
  cases v <;> first | exact h | cases hn
theorem conc_notTup {ρ : List Nat} {v : Value} (hn : notTup v = true) : conc ρ v = conc1 ρ v := by
  cases v <;> first | rfl | cases hn

theorem outK_sound {P : Program} {T : Tbl} (hT : T.Ok P) {fn : Func} {tm : List Value} {mem : Mem} {k : Value → Prop} (h : outK T fn.results.toList tm mem k) :
    ∃ v, k v ∧ ∀ w0 ρ w a, TmAt ρ tm a → MemAt w0 ρ mem w → ok2 ρ.length v ∧ (results fn a.tmps).run P w = .ok (conc ρ v) w := by
  obtain ⟨vs, h, hs⟩ := resK_sound hT _ h
  have hrun : ∀ w0 ρ w a, TmAt ρ tm a → MemAt w0 ρ mem w → (results fn a.tmps).run P w = .ok (if h : (vs.map (conc ρ)).toArray.size = 1 then (vs.map (conc ρ)).toArray[0] else .tuple (vs.map (conc ρ)).toArray) w := fun w0 ρ w a ha hm => by
    obtain ⟨_, h2⟩ := hs w0 ρ w a ha hm
    rw [results_eq, Array.mapM_eq_mapM_toList]
    simp only [Sem.run_bind, Sem.run_map, h2, Result.andThen_ok, Sem.run_pure]
  split at h
  · rename_i v
    refine ⟨v, h, fun w0 ρ w a ha hm => ⟨(hs w0 ρ w a ha hm).1 v (by simp), ?_⟩⟩
    rw [hrun w0 ρ w a ha hm]
    simp
  · rename_i hne
    split at h
    · rename_i hnt
      have hnt' := allL_spec hnt
      refine ⟨_, h, fun w0 ρ w a ha hm => ⟨fun v hv => ok2_notTup ((hs w0 ρ w a ha hm).1 v hv) (hnt' v hv), ?_⟩⟩
      rw [hrun w0 ρ w a ha hm]
      have hl : ¬ (vs.map (conc ρ)).toArray.size = 1 := by
        simp only [List.size_toArray, List.length_map]
        intro h1
        obtain ⟨v, hv⟩ := List.length_eq_one_iff.1 h1
        exact hne v hv
      rw [dif_neg hl]
      have : vs.map (conc ρ) = vs.map (conc1 ρ) := List.map_congr_left fun v hv => conc_notTup (hnt' v hv)
      rw [this]
      rfl
    · exact h.elim

/-- What a function has to come to. -/
def finP (T : Tbl) (rs : List ResultVar) (K : Value → Mem → Prop) : Post := fun e tm mem => match e with
  | .normal => outK T rs tm mem fun v => K v mem
  | .ret => outK T rs tm mem fun v => K v mem
  | _ => False

def undefs : Nat → List Value
  | 0 => []
  | n + 1 => undef :: undefs n

theorem undefs_eq : ∀ n, undefs n = List.replicate n undef
  | 0 => rfl
  | n + 1 => by rw [undefs, undefs_eq n, List.replicate_succ]

/-- A function, evaluated. -/
def evFn (P : Program) (T : Tbl) (fn : Func) (code : Code) (args : List Value) (mem : Mem) (K : Value → Mem → Prop) : Prop :=
  numK mem.length fun m0 => forceL (args ++ undefs (fn.ntmps - args.length)) fun tm => ev P T m0 code tm mem (finP T fn.results.toList K)

theorem evFn_sound {P : Program} {T : Tbl} (hT : T.Ok P) (hmix : P.follows .mixedOrders = true) {f : Nat} {fn : Func} {code : Code} (hf : P.funcs[f]? = some fn) (hb : fn.body = some code)
    {args : List Value} {mem : Mem} {K : Value → Mem → Prop} (h : evFn P T fn code args mem K) {w0 : Base} {ρ : List Nat} {w : World} (hm : MemAt w0 ρ mem w) (hargs : ∀ v ∈ args, ok2 ρ.length v) :
    Calls P f (args.map (conc ρ)).toArray w (fun e w' => ∃ v mem' σ, e = .returned (conc (ρ ++ σ) v) ∧ ok2 (ρ ++ σ).length v ∧ MemAt w0 (ρ ++ σ) mem' w' ∧ K v mem') := by
  unfold evFn at h
  rw [numK_eq, forceL_eq] at h
  refine calls_of_wp hf hb ?_
  refine ev_sound hT hmix hm.len code h (σ := []) (a := { tmps := _, defers := [] }) ⟨?_, fun i v hv _ => ?_, rfl⟩ (by rw [List.append_nil]; exact hm) fun e σ tm' mem' a' w' hk ha' hm' => ?_
  · simp [undefs_eq]
  · rw [List.append_nil]
    rw [undefs_eq] at hv
    have hv' := List.mem_of_getElem? hv
    refine ⟨?_, ?_⟩
    · have e1 : (args.map (conc ρ)).toArray ++ Array.replicate (fn.ntmps - args.length) undef = ((args ++ List.replicate (fn.ntmps - args.length) undef).map (conc ρ)).toArray := by
        rw [List.map_append, List.map_replicate, conc_undef]
        simp
      have e2 : ((args.map (conc ρ)).toArray ++ Array.replicate (fn.ntmps - (args.map (conc ρ)).toArray.size) undef)[i]? = some (conc ρ v) := by
        rw [List.size_toArray, List.length_map, e1]
        simp only [List.getElem?_toArray, List.getElem?_map, hv]
        rfl
      simpa using e2
    · rcases List.mem_append.1 hv' with hv' | hv'
      · exact hargs v hv'
      · rw [List.eq_of_mem_replicate hv']
        exact fun u hu => by cases hu
  · cases e with
    | normal =>
      obtain ⟨v, hk, hs⟩ := outK_sound hT hk
      obtain ⟨h1, h2⟩ := hs w0 _ w' a' ha' hm'
      exact ⟨ha'.defers, _, h2, v, mem', σ, rfl, h1, hm', hk⟩
    | ret =>
      obtain ⟨v, hk, hs⟩ := outK_sound hT hk
      obtain ⟨h1, h2⟩ := hs w0 _ w' a' ha' hm'
      exact ⟨ha'.defers, _, h2, v, mem', σ, rfl, h1, hm', hk⟩
    | _ => exact hk.elim

/-! ## Contracts -/

theorem MemAt.start (w : World) : MemAt ⟨w, []⟩ [] [] w :=
  ⟨rfl, rfl, rfl, Nat.le_refl _, rfl, fun _ h => (by cases h), fun _ _ _ _ h => (by cases h), fun _ _ _ => rfl, fun _ _ _ h => (by cases h), fun _ _ _ h => (by cases h), fun _ _ h => (by cases h)⟩

theorem MemAt.toBelow {w w' : World} {ρ : List Nat} {mem : Mem} (h : MemAt ⟨w, []⟩ ρ mem w') : Below w.heap.size w w' :=
  ⟨h.os, h.tape, h.output, h.size, fun k hk => h.old k hk (by simp)⟩

/-- A function of plain values. -/
structure Pure (P : Program) (f : Nat) (args : List Value) (v : Value) : Prop where
  enters : Enters P f
  pargs : allL plain args = true
  pres : plain v = true
  run : ∀ w, Calls P f args.toArray w (fun e w' => e = .returned v ∧ Below w.heap.size w w')

theorem map_conc_plain {args : List Value} (h : allL plain args = true) (ρ : List Nat) : args.map (conc ρ) = args := map_plain fun v hv => (plain_ok (allL_spec h v hv) 0 ρ).2

theorem Pure.callQ {P : Program} {f : Nat} {args : List Value} {v : Value} (h : Pure P f args v) (mem : Mem) : CallQ P f args mem v :=
  ⟨h.enters, (plain_ok h.pres _ []).1, fun w0 ρ w hm hargs => by
    rw [map_conc_plain h.pargs, (plain_ok h.pres 0 ρ).2]
    exact h.run w⟩

theorem Pure.call {P : Program} {f : Nat} {args : List Value} {v : Value} {mem : Mem} {k : Value → Mem → Prop} (h : Pure P f args v) (hk : k v mem) : CallOK P f args mem k := (h.callQ mem).call hk

theorem Pure.quiet {P : Program} {f : Nat} {args : List Value} {v : Value} {mem : Mem} {k : Value → Prop} (h : Pure P f args v) (hk : k v) : ∃ v, CallQ P f args mem v ∧ k v := ⟨v, h.callQ mem, hk⟩

structure EvGood (P : Program) (T : Tbl) : Prop where
  tbl : T.Ok P
  mix : P.follows .mixedOrders = true

/-- What is known of a function by its number. -/
structure IsFn (P : Program) (f : Nat) (fn : Func) (code : Code) : Prop where
  at_ : P.funcs[f]? = some fn
  body : fn.body = some code
  name : (fn.name == "runtime.NumGoroutine") = false

theorem IsFn.enters {P : Program} {f : Nat} {fn : Func} {code : Code} (h : IsFn P f fn code) : Enters P f := ⟨fn, h.at_, h.name, by rw [h.body]; rfl⟩

theorem pure_of {P : Program} {T : Tbl} (g : EvGood P T) {f : Nat} {fn : Func} {code : Code} (hf : IsFn P f fn code) {args : List Value} {v : Value} (ha : allL plain args = true) (hv : plain v = true)
    (h : evFn P T fn code args [] fun v' _ => v' = v) : Pure P f args v :=
  ⟨hf.enters, ha, hv, fun w => by
    have := evFn_sound g.tbl g.mix hf.at_ hf.body h (MemAt.start w) (fun u hu => (plain_ok (allL_spec ha u hu) _ []).1)
    rw [map_conc_plain ha] at this
    refine this.mono fun e w' ⟨v', mem', σ, he, _, hm, hk⟩ => ?_
    subst hk
    exact ⟨by rw [he, (plain_ok hv 0 _).2], hm.toBelow⟩⟩

/-! ## Functions that read memory that came in -/

structure RoAt (ρ0 : List Nat) (mem0 : List (List Value)) (w : World) : Prop where
  len : ρ0.length = mem0.length
  at_ : ∀ k cs, mem0[k]? = some cs → ρ0.getD k 0 < w.heap.size ∧ (∀ i x, cs[i]? = some x → w.cell? ⟨ρ0.getD k 0, i, none⟩ = some (conc0 ρ0 x)) ∧ ∀ x ∈ cs, ok0 ρ0.length x

theorem RoAt.mem {ρ0 : List Nat} {mem0 : List (List Value)} {w : World} (h : RoAt ρ0 mem0 w) (hlt : ∀ b ∈ ρ0, b < w.heap.size) : MemAt ⟨w, []⟩ ρ0 (mem0.map fun cs => (cs, none)) w := by
  have hno : ∀ k cs t, (mem0.map fun cs => ((cs, none) : Blk))[k]? = some (cs, some t) → False := fun k cs t hk => by
    rw [List.getElem?_map] at hk
    cases hm : mem0[k]? with
    | none => rw [hm] at hk; cases hk
    | some c => rw [hm] at hk; cases hk
  refine ⟨rfl, rfl, rfl, Nat.le_refl _, by simp [h.len], hlt, fun i j cs t hi => (hno i cs t hi).elim, fun _ _ _ => rfl, fun k cs t hk => (hno k cs t hk).elim, fun k cs t hk => (hno k cs t hk).elim, fun k cs hk => ?_⟩
  rw [List.getElem?_map] at hk
  cases hm : mem0[k]? with
  | none => rw [hm] at hk; cases hk
  | some c =>
    rw [hm] at hk
    cases hk
    obtain ⟨h1, h2, h3⟩ := h.at_ k cs hm
    exact ⟨h1, by simp, h2, h3⟩

/-- A function that reads the blocks mem0 and hands back a plain value. -/
structure CallR (P : Program) (f : Nat) (args0 : List Value) (mem0 : List (List Value)) (v : Value) : Prop where
  enters : Enters P f
  pres : plain v = true
  run : ∀ w ρ0, RoAt ρ0 mem0 w → (∀ b ∈ ρ0, b < w.heap.size) → Calls P f (args0.map (conc ρ0)).toArray w (fun e w' => e = .returned v ∧ Below w.heap.size w w')

def okB0 (n : Nat) : Value → Bool
  | .pointer (some a) => Nat.blt a.block n
  | .slice (some a) _ _ => Nat.blt a.block n
  | .agg _ | .tuple _ => false
  | _ => true
def okB1 (n : Nat) : Value → Bool
  | .agg cs => allL (okB0 n) cs.toList
  | v => okB0 n v
theorem okB0_spec {n : Nat} {v : Value} (h : okB0 n v = true) : ok0 n v := by
  unfold okB0 at h
  split at h
  · exact Nat.le_of_ble_eq_true h
  · exact Nat.le_of_ble_eq_true h
  · cases h
  · cases h
  · unfold ok0; split <;> first | trivial | simp_all
theorem okB1_spec {n : Nat} {v : Value} (h : okB1 n v = true) : ok2 n v := by
  cases v
  case agg cs => exact fun x hx => okB0_spec (allL_spec h x hx)
  case tuple vs => cases h
  all_goals (simp only [okB1] at h; simp only [ok2, ok1]; exact okB0_spec h)

theorem callR_of {P : Program} {T : Tbl} (g : EvGood P T) {f : Nat} {fn : Func} {code : Code} (hf : IsFn P f fn code) {args0 : List Value} {mem0 : List (List Value)} {v : Value}
    (ha : allL (okB1 mem0.length) args0 = true) (hv : plain v = true) (h : evFn P T fn code args0 (mem0.map fun cs => (cs, none)) fun v' _ => v' = v) : CallR P f args0 mem0 v :=
  ⟨hf.enters, hv, fun w ρ0 hro hlt => by
    have := evFn_sound g.tbl g.mix hf.at_ hf.body h (hro.mem hlt) (fun u hu => by rw [hro.len]; exact okB1_spec (allL_spec ha u hu))
    refine this.mono fun e w' ⟨v', mem', σ, he, _, hm, hk⟩ => ?_
    subst hk
    exact ⟨by rw [he, (plain_ok hv 0 _).2], hm.toBelow⟩⟩

/-- The block b of the caller's memory holds the cells cs. -/
def Holds (mem : Mem) (b : Nat) (cs : List Value) : Prop := ∃ kd, mem[b]? = some (cs, kd)

theorem CallR.callQ1 {P : Program} {f n c : Nat} {rest : List Value} {cs : List Value} {v : Value} (h : CallR P f (.slice (some ⟨0, 0, none⟩) n c :: rest) [cs] v)
    (hr : allL plain rest = true) (hcs : allL plain0 cs = true) {mem : Mem} {b : Nat} (hm : Holds mem b cs) : CallQ P f (.slice (some ⟨b, 0, none⟩) n c :: rest) mem v :=
  ⟨h.enters, (plain_ok h.pres _ []).1, fun w0 ρ w hmem hargs => by
    obtain ⟨kd, hb⟩ := hm
    have hbl : b < ρ.length := by rw [hmem.len]; exact getElem?_len hb
    have hlt := hmem.lt _ (getD_mem (d := 0) hbl)
    have hro : RoAt [ρ.getD b 0] [cs] w := ⟨rfl, fun k cs' hk => by
      have hk0 : k = 0 := by have := getElem?_len hk; simp at this; exact this
      subst hk0
      simp at hk
      subst hk
      refine ⟨hlt, fun i x hx => ?_, fun x hx => (plain0_ok (allL_spec hcs x hx) _ []).1⟩
      have := (hmem.cell hb hx).1
      have hp := plain0_ok (allL_spec hcs x (List.mem_of_getElem? hx)) 0
      rw [(hp [ρ.getD b 0]).2]
      rw [(hp ρ).2] at this
      exact this⟩
    have := h.run w [ρ.getD b 0] hro (fun x hx => by simp at hx; subst hx; simpa [List.getD] using hlt)
    rw [(plain_ok h.pres 0 ρ).2]
    have e1 : (Value.slice (some ⟨b, 0, none⟩) n c :: rest).map (conc ρ) = (Value.slice (some ⟨0, 0, none⟩) n c :: rest).map (conc [ρ.getD b 0]) := by
      rw [List.map_cons, List.map_cons, map_conc_plain hr, map_conc_plain hr]
      rfl
    rw [e1]
    exact this⟩

theorem CallR.call1 {P : Program} {f n c : Nat} {rest : List Value} {cs : List Value} {v : Value} (h : CallR P f (.slice (some ⟨0, 0, none⟩) n c :: rest) [cs] v)
    (hr : allL plain rest = true) (hcs : allL plain0 cs = true) {mem : Mem} {b : Nat} {k : Value → Mem → Prop} (hm : Holds mem b cs) (hk : k v mem) : CallOK P f (.slice (some ⟨b, 0, none⟩) n c :: rest) mem k :=
  (h.callQ1 hr hcs hm).call hk
theorem CallR.quiet1 {P : Program} {f n c : Nat} {rest : List Value} {cs : List Value} {v : Value} (h : CallR P f (.slice (some ⟨0, 0, none⟩) n c :: rest) [cs] v)
    (hr : allL plain rest = true) (hcs : allL plain0 cs = true) {mem : Mem} {b : Nat} {k : Value → Prop} (hm : Holds mem b cs) (hk : k v) : ∃ v, CallQ P f (.slice (some ⟨b, 0, none⟩) n c :: rest) mem v ∧ k v :=
  ⟨v, h.callQ1 hr hcs hm, hk⟩

end Go.Ev
