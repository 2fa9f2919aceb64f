/-
  The evaluator, part 10: contracts whose result is told up to forgetting; their use by a caller.
  Conditions: none.
-/
import Derived.Test.YtlkbfpklhncfbaaGreatDoorEvFrame
set_option linter.unusedVariables false
set_option linter.unusedSimpArgs false
namespace Go.Ev
open Go.RowKit

def okB2 (n : Nat) : Value → Bool
  | .tuple vs => allL (okB1 n) vs.toList
  | v => okB1 n v
theorem okB1_ok1 {n : Nat} {v : Value} (h : okB1 n v = true) : ok1 n v := by
  cases v
  case agg cs => exact fun x hx => okB0_spec (allL_spec h x hx)
  case tuple vs => cases h
  all_goals (simp only [okB1] at h; simp only [ok1]; exact okB0_spec h)
theorem okB2_spec {n : Nat} {v : Value} (h : okB2 n v = true) : ok2 n v := by
  cases v
  case tuple vs => exact fun x hx => okB1_ok1 (allL_spec h x hx)
  all_goals exact okB1_spec h
theorem tmR_rfl {κ : List Nat} {n : Nat} {tm tm' : List Value} (h : tm = mixL κ tm' tm) (ho : allL (okB2 n) tm' = true) : tmR κ n tm tm' := tmR_of h fun v hv => okB2_spec (allL_spec ho v hv)

/-- A result, told up to forgetting. -/
structure OutK (m0 : Nat) (R : Value → Mem → Prop) (v : Value) (mem : Mem) : Prop where
  ex : R v mem ∨ ∃ κ v' mem', MemR m0 κ mem mem' ∧ SlotR (keepL m0 κ) mem'.length v v' ∧ R v' mem'

theorem out_same {m0 : Nat} {R : Value → Mem → Prop} {v : Value} {mem : Mem} (h : R v mem) : OutK m0 R v mem := ⟨.inl h⟩
theorem out_forget {m0 : Nat} {R : Value → Mem → Prop} {v v' : Value} {mem mem' : Mem} (κ : List Nat) (h : R v' mem') (he : v = conc (keepL m0 κ) v') (ho : ok2 mem'.length v')
    (hb : memR (keepL m0 κ) mem'.length mem (keepL m0 κ) mem') (hlt : ltAll mem.length (keepL m0 κ) = true) (hnd : nodupN (keepL m0 κ) = true) : OutK m0 R v mem := ⟨.inr ⟨κ, v', mem', ⟨hlt, hnd, hb⟩, ⟨he, ho⟩, h⟩⟩

theorem callOK_ofF {P : Program} {T : Tbl} (g : EvGood P T) {f : Nat} {fn : Func} {code : Code} (hf : IsFn P f fn code) {args0 : List Value} {mem0 : Mem} {R : Value → Mem → Prop}
    (h : evFn P T fn code args0 mem0 (OutK mem0.length R)) : CallOK P f args0 mem0 R :=
  ⟨hf.enters, fun w0 ρ w hm hargs => (evFn_sound g.tbl g.mix hf.at_ hf.body h hm hargs).mono fun e w' ⟨v, mem', σ, h1, h2, h3, h4⟩ => by
    rcases h4.ex with h4 | ⟨κ, v', mem'', hR, hS, h4⟩
    · exact ⟨v, mem', σ, h1, h2, h3, h4⟩
    · have hm2 := h3.forget hR
      rw [keep_map hm.len] at hm2
      have hl := (memR_spec hR.blk).1
      have hmap := keep_map (κ := κ) (ρ0 := ρ) (σ := σ) hm.len
      refine ⟨v', mem'', _, ?_, ?_, hm2, h4⟩
      · rw [h1, hS.eq, conc_two (by rw [hl]; exact hS.ok), hmap]
      · rw [← hmap, List.length_map, hl]; exact hS.ok⟩

/-- The cells of a block, renamed. -/
structure MapK (κ : List Nat) (cs : List Value) (k : List Value → Prop) : Prop where
  go : k (cs.map (conc0 κ))
theorem mapK_plain {κ : List Nat} {cs : List Value} {k : List Value → Prop} (h : Plain cs) (hk : k cs) : MapK κ cs k := ⟨by rw [h.map]; exact hk⟩
theorem mapK_row {κ : List Nat} {L sp : List Value} {n c es : Nat} {k : List Value → Prop} (h : Row L sp n c es) (hk : k (L ++ sp)) : MapK κ (L ++ sp) k := mapK_plain (h.pl.app h.ps) hk
theorem mapK_lit {κ : List Nat} {cs : List Value} {k : List Value → Prop} (hk : forceL (cs.map (conc0 κ)) k) : MapK κ cs k := ⟨by rw [forceL_eq] at hk; exact hk⟩

noncomputable def newK (κ : List Nat) (acc new : Mem) : (Mem → Prop) → Prop :=
  @List.rec Blk (fun _ => Mem → (Mem → Prop) → Prop) (fun acc k => k acc)
    (fun b _ ih acc k => MapK κ b.1 fun cs' => forceL (acc ++ [(cs', b.2)]) fun acc' => ih acc' k) new acc
noncomputable def setK (κ : List Nat) (mem : Mem) (ι : List Nat) (out : Mem) : (Mem → Prop) → Prop :=
  @List.rec Nat (fun _ => Mem → Mem → (Mem → Prop) → Prop) (fun mem _ k => k mem)
    (fun b _ ih mem out k => match out with
      | [] => k mem
      | (cs, some t) :: out => MapK κ cs fun cs' => forceL (setM mem b (cs', some t)) fun mem' => ih mem' out k
      | (_, none) :: out => ih mem out k) ι mem out

theorem newK_eq {κ : List Nat} : ∀ {new acc : Mem} {k : Mem → Prop}, newK κ acc new k → k (acc ++ new.map fun b => (b.1.map (conc0 κ), b.2))
  | [], acc, k, h => by
    have h' : k acc := h
    simpa using h'
  | (cs, kd) :: rest, acc, k, h => by
    have h1 : forceL (acc ++ [(cs.map (conc0 κ), kd)]) fun acc' => newK κ acc' rest k := h.go
    rw [forceL_eq] at h1
    have := newK_eq (κ := κ) (new := rest) h1
    simpa [List.append_assoc] using this
theorem setK_eq {κ : List Nat} : ∀ {ι : List Nat} {mem out : Mem} {k : Mem → Prop}, setK κ mem ι out k → k (setAll κ mem ι out)
  | [], mem, out, k, h => by cases out <;> exact h
  | b :: ι, mem, [], k, h => h
  | b :: ι, mem, (cs, some t) :: out, k, h => by
    have h1 : forceL (setM mem b (cs.map (conc0 κ), some t)) fun mem' => setK κ mem' ι out k := h.go
    rw [forceL_eq] at h1
    exact setK_eq (ι := ι) h1
  | b :: ι, mem, (cs, none) :: out, k, h => setK_eq (ι := ι) h

/-- A block of the caller, as the callee's contract tells it. -/
inductive BlkV (κ : List Nat) (n : Nat) (old new : Blk) : Prop
  | plain (h : old.1 = new.1) (hk : ∀ t, new.2 = some t → old.2 = some t) (hp : Plain new.1)
  | lit (h : old.1 = new.1.map (conc0 κ)) (hk : ∀ t, new.2 = some t → old.2 = some t) (ho : ∀ v ∈ new.1, ok0 n v)
structure BlkAtV (κ : List Nat) (n : Nat) (mem : Mem) (b : Nat) (new : Blk) : Prop where
  ex : ∃ old, mem[b]? = some old ∧ BlkV κ n old new
def blkV (κ : List Nat) (mem : Mem) (n : Nat) : List Nat → Mem → Prop
  | [], [] => True
  | b :: ι, new :: m0 => BlkAtV κ n mem b new ∧ blkV κ mem n ι m0
  | _, _ => False
theorem blkV_spec {κ : List Nat} {mem : Mem} {n : Nat} : ∀ {ι : List Nat} {m0 : Mem}, blkV κ mem n ι m0 → ι.length = m0.length ∧
    ∀ j cs kd, m0[j]? = some (cs, kd) → ∃ kd', mem[ι.getD j 0]? = some (cs.map (conc0 κ), kd') ∧ (∀ t, kd = some t → kd' = some t) ∧ ∀ v ∈ cs, ok0 n v
  | [], [], _ => ⟨rfl, fun j cs kd h => by simp at h⟩
  | [], _ :: _, h => h.elim
  | _ :: _, [], h => h.elim
  | b :: ι, new :: m0, h => by
    obtain ⟨⟨old, h1, h2⟩, h5⟩ := h
    obtain ⟨h6, h7⟩ := blkV_spec h5
    refine ⟨by simp [h6], fun j cs2 kd2 hj => ?_⟩
    cases j with
    | zero =>
      simp at hj
      subst hj
      cases h2 with
      | plain h hk hp => exact ⟨old.2, by rw [hp.map]; simp only at h; rw [← h]; simpa using h1, hk, hp.ok n⟩
      | lit h hk ho => exact ⟨old.2, by simp only at h; rw [← h]; simpa using h1, hk, ho⟩
    | succ j =>
      obtain ⟨kd3, h8⟩ := h7 j cs2 kd2 (by simpa using hj)
      exact ⟨kd3, by simpa using h8⟩

theorem CallOK.useR {P : Program} {f : Nat} {args0 args : List Value} {mem0 mem : Mem} {R k : Value → Mem → Prop} (h : CallOK P f args0 mem0 R) (ι : List Nat) (hargs : args0.map (conc ι) = args)
    (hok : allL (okB1 mem0.length) args0 = true) (hnd : nodupB ι = true) (hblk : blkV ι mem mem0.length ι mem0)
    (hk : ∀ v mem', R v mem' → kindsB (mem0.map (·.2)) (mem'.map (·.2)) = true ∧ setK (iotaL ι mem.length (mem'.length - mem0.length)) mem ι mem' fun m1 =>
      newK (iotaL ι mem.length (mem'.length - mem0.length)) m1 (mem'.drop mem0.length) fun m2 => forceV (conc (iotaL ι mem.length (mem'.length - mem0.length)) v) fun v' => k v' m2) : CallOK P f args mem k := by
  obtain ⟨h1, h2⟩ := blkV_spec hblk
  refine h.frame ι hargs.symm (fun v hv => okB1_spec (allL_spec hok v hv)) h1 (nodupB_spec hnd) h2 fun v mem' hR => ?_
  obtain ⟨h3, h4⟩ := hk v mem' hR
  refine ⟨h3, ?_⟩
  have h5 := newK_eq (setK_eq h4)
  rw [forceV_eq] at h5
  exact h5

end Go.Ev
