/-
  The evaluator: drawn regions by a tree of choices: an operation on slots alone may be taken first; of the others each that may come up is followed.
  Conditions: none.
-/
import Derived.Test.YtlkbfpklhncfbaaGreatDoorEvForget
import Derived.Orders
set_option linter.unusedVariables false
set_option linter.unusedSimpArgs false
namespace Go.Ev
open Go.RowKit

/-- Operations whose result hangs on slots alone. -/
def evT (T : Tbl) (o : Op) (tm : List Value) (k : Value → Prop) : Prop := match o with
  | .move x => evR T (.move x) tm [] k
  | .extract x i => evR T (.extract x i) tm [] k
  | .indexAddr t x ix => evR T (.indexAddr t x ix) tm [] k
  | .fieldAddr t x f => evR T (.fieldAddr t x f) tm [] k
  | .nilCheck x => evR T (.nilCheck x) tm [] k
  | .binOp op t x y yt => evR T (.binOp op t x y yt) tm [] k
  | .unOp op t x => evR T (.unOp op t x) tm [] k
  | .slice t x lo hi mx => evR T (.slice t x lo hi mx) tm [] k
  | .build t parts => evR T (.build t parts) tm [] k
  | .call { callee := .builtin b, args := args, argTypes := ts } => evR T (.call { callee := .builtin b, args := args, argTypes := ts }) tm [] k
  | _ => False

theorem evT_sound {P : Program} {T : Tbl} (hT : T.Ok P) (o : Oper) {tm : List Value} {k : Value → Prop} (h : evT T o.op tm k) :
    ∃ v, k v ∧ ∀ ρ a, TmAt ρ tm a → (∀ w, (execOp a.eval o).run P w = .ok (.value (conc ρ v)) w) ∧ ok2 ρ.length v := by
  cases hop : o.op with
  | move x =>
    rw [hop] at h
    simp only [evT] at h
    obtain ⟨v, hk, hv⟩ := opK_sound h
    exact ⟨v, hk, fun ρ a ha => ⟨fun w => by simp [execOp, hop, (hv ρ a ha).1], (hv ρ a ha).2⟩⟩
  | extract x i =>
    rw [hop] at h
    simp only [evT] at h
    simp only [evR] at h
    obtain ⟨xv, h, hx⟩ := opK_sound h
    split at h
    · rename_i vs
      obtain ⟨v, hv, hk⟩ := tupK_spec h
      refine ⟨v, hk, fun ρ a ha => ?_⟩
      obtain ⟨ex, eok⟩ := hx ρ a ha
      have hok1 : ok1 ρ.length v := eok v (List.mem_of_getElem? hv)
      have hc1 : conc ρ v = conc1 ρ v ∧ ok2 ρ.length v := by
        cases v <;> first | exact ⟨rfl, hok1⟩ | exact hok1.elim
      refine ⟨fun w => ?_, hc1.2⟩
      simp only [execOp, hop]
      refine run_value ?_
      have e2 : (vs.toList.map (conc1 ρ)).toArray[i]? = some (conc1 ρ v) := by simp; exact ⟨v, by simpa using hv, rfl⟩
      rw [ex, hc1.1]
      simp only [conc, Instr.extract, e2, Sem.run_pure]
    · exact h.elim
  | indexAddr t x ix =>
    rw [hop] at h
    simp only [evT] at h
    simp only [evR] at h
    obtain ⟨ti, hti, rfl, h'⟩ := lookT_spec h
    clear h
    obtain ⟨xv, h, hx⟩ := opK_sound h'
    clear h'
    obtain ⟨iv, h2, hi⟩ := opK_sound h
    clear h
    have h := h2
    clear h2
    have hTi := (hT ti hti).sh
    split at h
    · rename_i n e es ag b off ik i hsh
      rw [hsh] at hTi
      obtain ⟨h1, h2, _⟩ := hTi
      rcases br_cases h with ⟨hb, h⟩ | ⟨_, h⟩
      · have hb' := of_decide_eq_true hb
        refine ⟨_, h, fun ρ a ha => ?_⟩
        obtain ⟨ex, eok⟩ := hx ρ a ha
        have ei : a.eval ix = .int ik i := (hi ρ a ha).1
        have ex' : a.eval x = .pointer (some ⟨ρ.getD b 0, off, none⟩) := ex
        refine ⟨fun w => ?_, eok⟩
        simp only [execOp, hop]
        refine run_value ?_
        have hal : P.arrayLen ti.t = n := by simp [Program.arrayLen, h1]
        have hel : P.elem ti.t = e := by simp [Program.elem, h1]
        rw [ex', ei, run_indexAt_array _ _ _ _ _ (by rw [hal, hel]; exact h1), hal, hel, if_pos hb', run_sizeOf_map h2, Result.andThen_ok, Addr.add_lit]
        rfl
      · exact h.elim
    · rename_i e es b off n c ik i hsh
      rw [hsh] at hTi
      obtain ⟨h1, h2⟩ := hTi
      rcases br_cases h with ⟨hb, h⟩ | ⟨_, h⟩
      · have hb' := of_decide_eq_true hb
        refine ⟨_, h, fun ρ a ha => ?_⟩
        obtain ⟨ex, eok⟩ := hx ρ a ha
        have ei : a.eval ix = .int ik i := (hi ρ a ha).1
        have ex' : a.eval x = .slice (some ⟨ρ.getD b 0, off, none⟩) n c := ex
        refine ⟨fun w => ?_, eok⟩
        simp only [execOp, hop]
        refine run_value ?_
        have hel : P.elem ti.t = e := by simp [Program.elem, h1]
        rw [ex', ei, run_indexAt_slice _ _ _ _ _ _ _ (by rw [hel]; exact h1), hel, if_pos hb', run_sizeOf_map h2, Result.andThen_ok, Addr.add_lit]
        rfl
      · exact h.elim
    · exact h.elim
  | fieldAddr t x f =>
    rw [hop] at h
    simp only [evT] at h
    simp only [evR] at h
    obtain ⟨ti, hti, rfl, h'⟩ := lookT_spec h
    clear h
    obtain ⟨xv, h, hx⟩ := opK_sound h'
    clear h'
    have hTi := (hT ti hti).sh
    split at h
    · rename_i fs b off hsh
      rw [hsh] at hTi
      obtain ⟨fields, h1, h2⟩ := hTi
      obtain ⟨fd, hfd, h⟩ := fldK_spec h
      split at h
      · exact h.elim
      · rename_i hz
        have hz' : fd.2.1 ≠ 0 := fun h0 => by rw [h0] at hz; cases hz
        refine ⟨_, h, fun ρ a ha => ?_⟩
        obtain ⟨ex, eok⟩ := hx ρ a ha
        have ex' : a.eval x = .pointer (some ⟨ρ.getD b 0, off, none⟩) := ex
        refine ⟨fun w => ?_, eok⟩
        simp only [execOp, hop]
        refine run_value ?_
        have hj := congrArg (fun l => l[f]?) h2
        simp only [List.getElem?_map, hfd, Option.map_some] at hj
        cases hfl : fields.toList[f]? with
        | none => rw [hfl] at hj; cases hj
        | some y =>
          rw [hfl] at hj
          simp only [Option.map_some, Option.some.injEq, Prod.mk.injEq] at hj
          have hfa : fields[f]? = some y := by simpa using hfl
          rw [ex']
          simp only [Instr.fieldAt, Sem.run_bind, run_underlying h1, Result.andThen_ok, hfa, Instr.sureAddr, Sem.run_pure, fieldPlace, run_sizeOf_map hj.2.1, if_neg hz', Addr.add_lit, hj.1]
          rfl
    · exact h.elim
  | nilCheck x =>
    rw [hop] at h
    simp only [evT] at h
    simp only [evR] at h
    obtain ⟨xv, h, hx⟩ := opK_sound h
    split at h
    · rename_i ad
      refine ⟨_, h, fun ρ a ha => ?_⟩
      obtain ⟨ex, eok⟩ := hx ρ a ha
      refine ⟨fun w => ?_, eok⟩
      simp only [execOp, hop]
      rw [ex]
      rfl
    · exact h.elim
  | binOp op t x y yt =>
    rw [hop] at h
    simp only [evT] at h
    simp only [evR] at h
    obtain ⟨xv, h, hx⟩ := opK_sound h
    obtain ⟨yv, h, hy⟩ := opK_sound h
    obtain ⟨v, hk, hp, hv⟩ := binK_sound hT h
    refine ⟨v, hk, fun ρ a ha => ⟨fun w => ?_, (plain_ok hp _ ρ).1⟩⟩
    have ex : a.eval x = conc ρ xv := (hx ρ a ha).1
    have ey : a.eval y = conc ρ yv := (hy ρ a ha).1
    simp only [execOp, hop]
    refine run_value ?_
    rw [ex, ey, (plain_ok hp 0 ρ).2]
    exact hv ρ w x y
  | unOp op t x =>
    rw [hop] at h
    simp only [evT] at h
    simp only [evR] at h
    obtain ⟨xv, h, hx⟩ := opK_sound h
    obtain ⟨v, hk, hp, hc, hv⟩ := unK_sound (P := P) h
    refine ⟨v, hk, fun ρ a ha => ⟨fun w => ?_, (plain_ok hp _ ρ).1⟩⟩
    have ex : a.eval x = xv := (hx ρ a ha).1.trans (hc ρ)
    simp only [execOp, hop]
    refine run_value ?_
    rw [ex, (plain_ok hp 0 ρ).2]
    exact hv w
  | slice t x lo hi mx =>
    rw [hop] at h
    cases mx with
    | some m => simp only [evT] at h; exact h.elim
    | none =>
    simp only [evT] at h
    simp only [evR] at h
    obtain ⟨ti, hti, rfl, h'⟩ := lookT_spec h
    clear h
    obtain ⟨xv, h, hx⟩ := opK_sound h'
    clear h'
    obtain ⟨lv, h', hl⟩ := optK_sound h
    clear h
    obtain ⟨hv, h, hh⟩ := optK_sound h'
    clear h'
    have hTi := (hT ti hti).sh
    unfold sliceK at h
    split at h
    · rename_i n e es ag b off hsh
      rw [hsh] at hTi
      obtain ⟨h1, h, hb1⟩ := hiK_spec h
      obtain ⟨l1, h, hb2⟩ := loK_spec h
      rw [subK_eq, subK_eq] at h
      refine ⟨_, h, fun ρ a ha => ⟨fun w => ?_, (hx ρ a ha).2⟩⟩
      have ex : a.eval x = .pointer (some ⟨ρ.getD b 0, off, none⟩) := (hx ρ a ha).1
      simp only [execOp, hop]
      refine run_value ?_
      simp only [Instr.sliceAt, Sem.run_bind, run_underlying hTi.1, Result.andThen_ok, ex, Instr.sureAddr, Sem.run_pure, hl ρ a ha, hh ρ a ha, Option.map_none, run_bounds hb1 hb2, run_sizeOf_map hTi.2.1, offK_eq]
      rfl
    · rename_i e es b off len cap hsh
      rw [hsh] at hTi
      obtain ⟨h1, h, hb1⟩ := hiK_spec h
      obtain ⟨l1, h, hb2⟩ := loK_spec h
      rw [subK_eq, subK_eq] at h
      refine ⟨_, h, fun ρ a ha => ⟨fun w => ?_, (hx ρ a ha).2⟩⟩
      have ex : a.eval x = .slice (some ⟨ρ.getD b 0, off, none⟩) len cap := (hx ρ a ha).1
      simp only [execOp, hop]
      refine run_value ?_
      simp only [Instr.sliceAt, Instr.slice, Sem.run_bind, run_underlying hTi.1, Result.andThen_ok, ex, Sem.run_pure, hl ρ a ha, hh ρ a ha, Option.map_none, run_bounds hb1 hb2, run_sizeOf_map hTi.2]
      have := offK_eq cap l1 off es (ρ.getD b 0)
      by_cases hc : cap = l1
      · rw [if_pos hc] at this ⊢
        rw [this]; rfl
      · rw [if_neg hc] at this ⊢
        simp only [Option.map_some, this]; rfl
    · rename_i e es len cap hsh
      rw [hsh] at hTi
      obtain ⟨h1, h, hb1⟩ := hiK_spec h
      obtain ⟨l1, h, hb2⟩ := loK_spec h
      refine ⟨_, h, fun ρ a ha => ⟨fun w => ?_, trivial⟩⟩
      have ex : a.eval x = .slice none len cap := (hx ρ a ha).1
      simp only [execOp, hop]
      refine run_value ?_
      simp only [Instr.sliceAt, Instr.slice, Sem.run_bind, run_underlying hTi.1, Result.andThen_ok, ex, Sem.run_pure, hl ρ a ha, hh ρ a ha, Option.map_none, run_bounds hb1 hb2, run_sizeOf_map hTi.2, ite_self]
      rfl
    · rename_i s hsh
      rw [hsh] at hTi
      obtain ⟨h1, h, hb1⟩ := hiK_spec h
      obtain ⟨l1, h, hb2⟩ := loK_spec h
      refine ⟨_, h, fun ρ a ha => ⟨fun w => ?_, trivial⟩⟩
      have ex : a.eval x = .string s := (hx ρ a ha).1
      simp only [execOp, hop]
      refine run_value ?_
      simp only [Instr.sliceAt, Instr.slice, Sem.run_bind, run_underlying hTi, Result.andThen_ok, ex, Sem.run_pure, hl ρ a ha, hh ρ a ha, Option.map_none, Option.isSome_none, Bool.false_eq_true, if_false, run_bounds hb1 hb2]
      rfl
    · exact h.elim
  | call c =>
    rw [hop] at h
    obtain ⟨callee, args, ts⟩ := c
    cases callee with
    | builtin b =>
      simp only [evT] at h
      simp only [evR] at h
      obtain ⟨vs, h, hvs⟩ := argsK_sound h
      obtain ⟨v, hk, hp, hv⟩ := builtinK_sound hT h
      refine ⟨v, hk, fun ρ a ha => ⟨fun w => ?_, (plain_ok hp _ ρ).1⟩⟩
      have ea : args.map a.eval = (vs.map (conc ρ)).toArray := by
        apply Array.ext'
        simpa using (hvs ρ a ha).1
      simp only [execOp, hop, resolve, Sem.run_bind, Sem.run_pure, Result.andThen_ok, invoke, ea, (plain_ok hp 0 ρ).2]
      exact hv ρ o.type _ w
    | value f => simp only [evT] at h
    | invoke r m => simp only [evT] at h
  | build t parts =>
    rw [hop] at h
    simp only [evT] at h
    simp only [evR] at h
    obtain ⟨ti, hti, rfl, h'⟩ := lookT_spec h
    clear h
    split at h'
    · rename_i hag
      obtain ⟨cs, hk, hf⟩ := fillK_sound h'
      have hTi := hT ti hti
      refine ⟨_, hk, fun ρ a ha => ?_⟩
      have hz := zero_ok hTi ρ.length
      refine ⟨fun w => ?_, (hf ρ a (fun i => match ti.sh with | .arr _ _ es _ => some (i * es, es) | .slice _ es => some (i * es, es) | .str fs => (fs[i]?).map (fun x => (x.1, x.2.1)) | _ => none) ha (fun i o s ho => by
        cases hsh : ti.sh <;> rw [hsh] at ho <;> simp only [PlaceAt] at ho
        · obtain ⟨rfl, rfl⟩ := ho; rfl
        · obtain ⟨b, hb⟩ := ho; simp [hb]
        · obtain ⟨rfl, rfl⟩ := ho; rfl) hz).2⟩
      simp only [execOp, hop]
      refine run_value ?_
      exact build_sound hTi hag (fun place hpl => (hf ρ a place ha hpl hz).1) w
    · exact h'.elim
  | _ => rw [hop] at h; exact h.elim

inductive PT where
  | done
  | take (i : Nat) (r : PT)
  | solo (i : Nat) (r : PT)
  | duo (i : Nat) (r : PT) (j : Nat) (s : PT)
  | trio (i : Nat) (r : PT) (j : Nat) (s : PT) (k : Nat) (t : PT)
  | quad (i : Nat) (r : PT) (j : Nat) (s : PT) (k : Nat) (t : PT) (l : Nat) (u : PT)
  /-- All orders of t come to the state that the order m comes to; then r. -/
  | join (m : List Nat) (t : PT) (r : PT)

noncomputable def opAtK (l : List Oper) : Nat → (Oper → Prop) → Prop :=
  @List.rec Oper (fun _ => Nat → (Oper → Prop) → Prop) (fun _ _ => False) (fun o _ ih n k => @Nat.rec (fun _ => Prop) (k o) (fun m _ => ih m k) n) l
theorem opAtK_spec : ∀ {l : List Oper} {n : Nat} {k : Oper → Prop}, opAtK l n k → ∃ o, l[n]? = some o ∧ k o
  | [], _, _, h => h.elim
  | o :: _, 0, _, h => ⟨o, by simp, h⟩
  | _ :: l, n + 1, _, h => by obtain ⟨o, h1, h2⟩ := opAtK_spec (l := l) h; exact ⟨o, by simpa using h1, h2⟩

/-- An operation of the order that the others are held against. -/
def opE (P : Program) (T : Tbl) (o : Oper) (tm : List Value) (mem : Mem) (K : List Value → Mem → Prop) : Prop := match o.guard with
  | some _ => False
  | none => match o.op with
    | .call { callee := .value x, args := args, argTypes := _ } => calleeK tm x args fun n vs => ∃ v, CallQ P n vs mem v ∧ putK o.dst v tm fun tm' => K tm' mem
    | .alloc t => evM T (.alloc t) tm mem fun v mem' => putK o.dst v tm fun tm' => K tm' mem'
    | .box t x => evM T (.box t x) tm mem fun v mem' => putK o.dst v tm fun tm' => K tm' mem'
    | .store t x y => evM T (.store t x y) tm mem fun v mem' => putK o.dst v tm fun tm' => K tm' mem'
    | .buildSlice t n ps => evM T (.buildSlice t n ps) tm mem fun v mem' => putK o.dst v tm fun tm' => K tm' mem'
    | op => evR T op tm mem fun v => putK o.dst v tm fun tm' => K tm' mem

theorem opE_ex {P : Program} {T : Tbl} (hT : T.Ok P) {o : Oper} {tm : List Value} {mem : Mem} {K : List Value → Mem → Prop} (h : opE P T o tm mem K) : ∃ tm' mem', K tm' mem' := by
  unfold opE at h
  split at h
  · exact h.elim
  · split at h
    · obtain ⟨n, vs, ⟨v, _, hk⟩, _⟩ := calleeK_sound (P := P) h; rw [putK_eq] at hk; exact ⟨_, _, hk⟩
    · rename_i t hop; rw [← hop] at h; obtain ⟨v, mem', hk, _⟩ := evM_sound hT o h; rw [putK_eq] at hk; exact ⟨_, _, hk⟩
    · rename_i t x hop; rw [← hop] at h; obtain ⟨v, mem', hk, _⟩ := evM_sound hT o h; rw [putK_eq] at hk; exact ⟨_, _, hk⟩
    · rename_i t x y hop; rw [← hop] at h; obtain ⟨v, mem', hk, _⟩ := evM_sound hT o h; rw [putK_eq] at hk; exact ⟨_, _, hk⟩
    · rename_i t n ps hop; rw [← hop] at h; obtain ⟨v, mem', hk, _⟩ := evM_sound hT o h; rw [putK_eq] at hk; exact ⟨_, _, hk⟩
    · obtain ⟨v, hk, _⟩ := evR_sound hT o h; rw [putK_eq] at hk; exact ⟨_, _, hk⟩

/-- The same state, but for the numbers of blocks that have been laid since. -/
structure JoinK (m0 : Nat) (tm2 : List Value) (mem2 : Mem) (tm' : List Value) (mem' : Mem) : Prop where
  or : (tm' = tm2 ∧ mem' = mem2) ∨ ∃ κ, Forget m0 κ tm' mem' tm2 mem2
theorem join_same {m0 : Nat} {tm : List Value} {mem : Mem} : JoinK m0 tm mem tm mem := ⟨.inl ⟨rfl, rfl⟩⟩
theorem join_forget {m0 : Nat} {tm tm' : List Value} {mem mem' : Mem} (κ : List Nat) (ht : tmR (keepL m0 κ) mem'.length tm tm')
    (hb : memR (keepL m0 κ) mem'.length mem (keepL m0 κ) mem') (hlt : ltAll mem.length (keepL m0 κ) = true) (hnd : nodupN (keepL m0 κ) = true) : JoinK m0 tm' mem' tm mem :=
  ⟨.inr ⟨κ, ⟨⟨hlt, hnd, hb⟩, ht⟩⟩⟩

noncomputable def runK (P : Program) (T : Tbl) (ops : List Oper) (m : List Nat) : List Value → Mem → (List Value → Mem → Prop) → Prop :=
  @List.rec Nat (fun _ => List Value → Mem → (List Value → Mem → Prop) → Prop) (fun tm mem K => K tm mem)
    (fun i _ ih tm mem K => opAtK ops i fun o => opE P T o tm mem fun tm' mem' => ih tm' mem' K) m

theorem runK_ex {P : Program} {T : Tbl} (hT : T.Ok P) {ops : List Oper} : ∀ {m : List Nat} {tm : List Value} {mem : Mem} {K : List Value → Mem → Prop}, runK P T ops m tm mem K → ∃ tm' mem', K tm' mem'
  | [], tm, mem, K, h => ⟨tm, mem, h⟩
  | i :: m, tm, mem, K, h => by
    have h' : opAtK ops i fun o => opE P T o tm mem fun tm' mem' => runK P T ops m tm' mem' K := h
    obtain ⟨o, _, h2⟩ := opAtK_spec h'
    obtain ⟨tm', mem', h3⟩ := opE_ex hT h2
    exact runK_ex hT h3

noncomputable def ptK (P : Program) (T : Tbl) (ops : List Oper) (p : PT) : List Value → Mem → (List Value → Mem → Prop) → Prop :=
  @PT.rec (fun _ => List Value → Mem → (List Value → Mem → Prop) → Prop)
    (fun tm mem K => K tm mem)
    (fun i _ ih tm mem K => opAtK ops i fun o => evT T o.op tm fun v => putK o.dst v tm fun tm' => ih tm' mem K)
    (fun i _ ih tm mem K => opAtK ops i fun o => evOps P T ops [o] tm mem fun tm' mem' => ih tm' mem' K)
    (fun i _ j _ ih jh tm mem K => (opAtK ops i fun o => evOps P T ops [o] tm mem fun tm' mem' => ih tm' mem' K) ∧ (opAtK ops j fun o => evOps P T ops [o] tm mem fun tm' mem' => jh tm' mem' K))
    (fun i _ j _ k _ ih jh kh tm mem K => (opAtK ops i fun o => evOps P T ops [o] tm mem fun tm' mem' => ih tm' mem' K) ∧ (opAtK ops j fun o => evOps P T ops [o] tm mem fun tm' mem' => jh tm' mem' K) ∧
      (opAtK ops k fun o => evOps P T ops [o] tm mem fun tm' mem' => kh tm' mem' K))
    (fun i _ j _ k _ l _ ih jh kh lh tm mem K => (opAtK ops i fun o => evOps P T ops [o] tm mem fun tm' mem' => ih tm' mem' K) ∧ (opAtK ops j fun o => evOps P T ops [o] tm mem fun tm' mem' => jh tm' mem' K) ∧
      (opAtK ops k fun o => evOps P T ops [o] tm mem fun tm' mem' => kh tm' mem' K) ∧ (opAtK ops l fun o => evOps P T ops [o] tm mem fun tm' mem' => lh tm' mem' K))
    (fun m _ _ th rh tm mem K => runK P T ops m tm mem fun tm2 mem2 => th tm mem (fun tm' mem' => JoinK mem.length tm2 mem2 tm' mem') ∧ rh tm2 mem2 K) p

def guardFree (ops : Array Oper) (i : Nat) : Bool := match ops[i]? with
  | some o => o.guard.isNone
  | none => false

def setAllT (l : Array Bool) : List Nat → Array Bool
  | [] => l
  | i :: m => setAllT (l.setIfInBounds i true) m

/-- From what is listed, by f operations, to the target. -/
def ptChk (ops : Array Oper) : PT → Array Bool → Array Bool → Nat → Bool
  | .done, l, g, f => decide (f = 0) && decide (l = g)
  | .take i r, l, g, f + 1 => Region.noSelect ops && Region.free .any ops l i && (Region.ready .any ops l).contains i && guardFree ops i && ptChk ops r (l.setIfInBounds i true) g f
  | .solo i r, l, g, f + 1 => decide (Region.ready .any ops l = [i]) && ptChk ops r (l.setIfInBounds i true) g f
  | .duo i r j s, l, g, f + 1 => decide (Region.ready .any ops l = [i, j]) && ptChk ops r (l.setIfInBounds i true) g f && ptChk ops s (l.setIfInBounds j true) g f
  | .trio i r j s k t, l, g, f + 1 => decide (Region.ready .any ops l = [i, j, k]) && ptChk ops r (l.setIfInBounds i true) g f && ptChk ops s (l.setIfInBounds j true) g f && ptChk ops t (l.setIfInBounds k true) g f
  | .quad i r j s k t q u, l, g, f + 1 => decide (Region.ready .any ops l = [i, j, k, q]) && ptChk ops r (l.setIfInBounds i true) g f && ptChk ops s (l.setIfInBounds j true) g f && ptChk ops t (l.setIfInBounds k true) g f && ptChk ops u (l.setIfInBounds q true) g f
  | .join m t r, l, g, f => decide (m.length ≤ f) && ptChk ops t l (setAllT l m) m.length && ptChk ops r (setAllT l m) g (f - m.length)
  | _, _, _, 0 => false

def noPan (Q : Exit → Act → World → Prop) : Exit → Act → World → Prop
  | .panic _, _, _ => False
  | e, a, w => Q e a w
theorem noPan_imp {Q : Exit → Act → World → Prop} : ∀ (e : Exit) (a : Act) (w : World), noPan Q e a w → Q e a w := fun e a w h => by
  cases e <;> first | exact h | exact (h : False).elim

section
variable {P : Program} {T : Tbl}

theorem pt_op (hT : T.Ok P) {ops : List Oper} {i : Nat} {tm : List Value} {mem : Mem} {K : List Value → Mem → Prop} {f : Nat} {listed : Array Bool} (h : opAtK ops i fun o => evOps P T ops [o] tm mem K)
    {w0 : Base} {ρ : List Nat} {w : World} {a : Act} (ha : TmAt ρ tm a) (hm : MemAt w0 ρ mem w) {Q : Exit → Act → World → Prop}
    (hn : ∀ σ tm' mem' a' w', K tm' mem' → TmAt (ρ ++ σ) tm' a' → MemAt w0 (ρ ++ σ) mem' w' → wpAny P .any ops.toArray (noPan Q) f (listed.setIfInBounds i true) a' w') :
    wpOp P ops.toArray (noPan Q) i (wpAny P .any ops.toArray (noPan Q) f (listed.setIfInBounds i true)) a w := by
  obtain ⟨o, ho, h⟩ := opAtK_spec h
  have hstep := evOps_sound hT [o] h ha hm (Q := fun e a w => match e with
    | .normal => wpAny P .any ops.toArray (noPan Q) f (listed.setIfInBounds i true) a w
    | e => noPan Q e a w) hn
  unfold wpOp
  have ho' : ops.toArray[i]? = some o := by simpa using ho
  rw [ho']
  simp only [wpList] at hstep
  simp only
  split
  · rename_i hw
    rw [if_pos hw] at hstep
    rcases hstep with hstep | ⟨h5, a', w', h6⟩
    · refine .inl ?_
      unfold Oper.wp at *
      generalize (execOp a.eval o).run P w = r at *
      cases r with
      | halt x w' => exact hstep
      | ok nx w' => cases nx <;> simp only [Oper.upon] at hstep ⊢ <;> exact hstep
    · exact .inr ⟨h5, a', w', h6⟩
  · rename_i hw
    rw [if_neg hw] at hstep
    exact hstep

theorem pt_sound (hT : T.Ok P) {ops : List Oper} : ∀ (p : PT) (f g : Nat) (listed target : Array Bool), ptChk ops.toArray p listed target f = true → ∀ {tm : List Value} {mem : Mem} {K : List Value → Mem → Prop}, ptK P T ops p tm mem K →
    ∀ {w0 : Base} {ρ : List Nat} {w : World} {a : Act}, TmAt ρ tm a → MemAt w0 ρ mem w → ∀ {Q : Exit → Act → World → Prop},
    (∀ σ tm' mem' a' w', K tm' mem' → TmAt (ρ ++ σ) tm' a' → MemAt w0 (ρ ++ σ) mem' w' → wpAny P .any ops.toArray (noPan Q) g target a' w') → wpAny P .any ops.toArray (noPan Q) (f + g) listed a w
  | .done, f, g, listed, target, hc, tm, mem, K, h, w0, ρ, w, a, ha, hm, Q, hQ => by
    have hc' : (decide (f = 0) && decide (listed = target)) = true := by cases f <;> exact hc
    simp only [Bool.and_eq_true, decide_eq_true_eq] at hc'
    obtain ⟨rfl, rfl⟩ := hc'
    rw [Nat.zero_add]
    exact hQ [] tm mem a w h (by rw [List.append_nil]; exact ha) (by rw [List.append_nil]; exact hm)
  | .take i r, 0, g, listed, target, hc, tm, mem, K, h, w0, ρ, w, a, ha, hm, Q, hQ => by cases hc
  | .take i r, f + 1, g, listed, target, hc, tm, mem, K, h, w0, ρ, w, a, ha, hm, Q, hQ => by
    simp only [ptChk, Bool.and_eq_true] at hc
    obtain ⟨⟨⟨⟨h1, h2⟩, h3⟩, h4⟩, h5⟩ := hc
    have h' : opAtK ops i fun o => evT T o.op tm fun v => putK o.dst v tm fun tm' => ptK P T ops r tm' mem K := h
    obtain ⟨o, ho, h'⟩ := opAtK_spec h'
    obtain ⟨v, hk, hs⟩ := evT_sound hT o h'
    rw [putK_eq] at hk
    obtain ⟨hrun, hok⟩ := hs ρ a ha
    have ho' : ops.toArray[i]? = some o := by simpa using ho
    have hg : o.guard = none := by
      simp only [guardFree, ho'] at h4
      exact Option.isNone_iff_eq_none.1 h4
    rw [show f + 1 + g = (f + g) + 1 by omega]
    refine wpAny_take (v := conc ρ v) ho' h1 h2 h3 (fun c a w hp => hp.elim) (.inl ⟨by simp [Region.wanted, hg], hrun⟩) ?_
    exact pt_sound hT r f g _ _ h5 hk (ha.put o.dst hok) hm hQ
  | .solo i r, 0, g, listed, target, hc, tm, mem, K, h, w0, ρ, w, a, ha, hm, Q, hQ => by cases hc
  | .solo i r, f + 1, g, listed, target, hc, tm, mem, K, h, w0, ρ, w, a, ha, hm, Q, hQ => by
    simp only [ptChk, Bool.and_eq_true, decide_eq_true_eq] at hc
    obtain ⟨h1, h2⟩ := hc
    rw [show f + 1 + g = (f + g) + 1 by omega]
    refine wpAny_all h1 (by simp) fun j hj => ?_
    simp only [List.mem_singleton] at hj
    subst hj
    exact pt_op hT (show opAtK ops j fun o => evOps P T ops [o] tm mem fun tm' mem' => ptK P T ops r tm' mem' K from h) ha hm fun σ tm' mem' a' w' hk ha' hm' =>
      pt_sound hT r f g _ _ h2 hk ha' hm' fun σ' tm'' mem'' a'' w'' hk' ha'' hm'' => by
        rw [List.append_assoc] at ha'' hm''
        exact hQ (σ ++ σ') _ _ _ _ hk' ha'' hm''
  | .duo i r j s, 0, g, listed, target, hc, tm, mem, K, h, w0, ρ, w, a, ha, hm, Q, hQ => by cases hc
  | .duo i r j s, f + 1, g, listed, target, hc, tm, mem, K, h, w0, ρ, w, a, ha, hm, Q, hQ => by
    simp only [ptChk, Bool.and_eq_true, decide_eq_true_eq] at hc
    obtain ⟨⟨h1, h2⟩, h3⟩ := hc
    have h' : (opAtK ops i fun o => evOps P T ops [o] tm mem fun tm' mem' => ptK P T ops r tm' mem' K) ∧ (opAtK ops j fun o => evOps P T ops [o] tm mem fun tm' mem' => ptK P T ops s tm' mem' K) := h
    rw [show f + 1 + g = (f + g) + 1 by omega]
    refine wpAny_all h1 (by simp) fun q hq => ?_
    simp only [List.mem_cons, List.not_mem_nil, or_false] at hq
    rcases hq with rfl | rfl
    · exact pt_op hT h'.1 ha hm fun σ tm' mem' a' w' hk ha' hm' =>
        pt_sound hT r f g _ _ h2 hk ha' hm' fun σ' tm'' mem'' a'' w'' hk' ha'' hm'' => by
          rw [List.append_assoc] at ha'' hm''
          exact hQ (σ ++ σ') _ _ _ _ hk' ha'' hm''
    · exact pt_op hT h'.2 ha hm fun σ tm' mem' a' w' hk ha' hm' =>
        pt_sound hT s f g _ _ h3 hk ha' hm' fun σ' tm'' mem'' a'' w'' hk' ha'' hm'' => by
          rw [List.append_assoc] at ha'' hm''
          exact hQ (σ ++ σ') _ _ _ _ hk' ha'' hm''
  | .trio i r j s k t, 0, g, listed, target, hc, tm, mem, K, h, w0, ρ, w, a, ha, hm, Q, hQ => by cases hc
  | .trio i r j s k t, f + 1, g, listed, target, hc, tm, mem, K, h, w0, ρ, w, a, ha, hm, Q, hQ => by
    simp only [ptChk, Bool.and_eq_true, decide_eq_true_eq] at hc
    obtain ⟨⟨⟨h1, h2⟩, h3⟩, h4⟩ := hc
    have h' : (opAtK ops i fun o => evOps P T ops [o] tm mem fun tm' mem' => ptK P T ops r tm' mem' K) ∧ (opAtK ops j fun o => evOps P T ops [o] tm mem fun tm' mem' => ptK P T ops s tm' mem' K) ∧
      (opAtK ops k fun o => evOps P T ops [o] tm mem fun tm' mem' => ptK P T ops t tm' mem' K) := h
    rw [show f + 1 + g = (f + g) + 1 by omega]
    refine wpAny_all h1 (by simp) fun q hq => ?_
    simp only [List.mem_cons, List.not_mem_nil, or_false] at hq
    rcases hq with rfl | rfl | rfl
    · exact pt_op hT h'.1 ha hm fun σ tm' mem' a' w' hk ha' hm' =>
        pt_sound hT r f g _ _ h2 hk ha' hm' fun σ' tm'' mem'' a'' w'' hk' ha'' hm'' => by
          rw [List.append_assoc] at ha'' hm''
          exact hQ (σ ++ σ') _ _ _ _ hk' ha'' hm''
    · exact pt_op hT h'.2.1 ha hm fun σ tm' mem' a' w' hk ha' hm' =>
        pt_sound hT s f g _ _ h3 hk ha' hm' fun σ' tm'' mem'' a'' w'' hk' ha'' hm'' => by
          rw [List.append_assoc] at ha'' hm''
          exact hQ (σ ++ σ') _ _ _ _ hk' ha'' hm''
    · exact pt_op hT h'.2.2 ha hm fun σ tm' mem' a' w' hk ha' hm' =>
        pt_sound hT t f g _ _ h4 hk ha' hm' fun σ' tm'' mem'' a'' w'' hk' ha'' hm'' => by
          rw [List.append_assoc] at ha'' hm''
          exact hQ (σ ++ σ') _ _ _ _ hk' ha'' hm''
  | .quad i r j s k t l u, 0, g, listed, target, hc, tm, mem, K, h, w0, ρ, w, a, ha, hm, Q, hQ => by cases hc
  | .quad i r j s k t l u, f + 1, g, listed, target, hc, tm, mem, K, h, w0, ρ, w, a, ha, hm, Q, hQ => by
    simp only [ptChk, Bool.and_eq_true, decide_eq_true_eq] at hc
    obtain ⟨⟨⟨⟨h1, h2⟩, h3⟩, h4⟩, h5⟩ := hc
    have h' : (opAtK ops i fun o => evOps P T ops [o] tm mem fun tm' mem' => ptK P T ops r tm' mem' K) ∧ (opAtK ops j fun o => evOps P T ops [o] tm mem fun tm' mem' => ptK P T ops s tm' mem' K) ∧
      (opAtK ops k fun o => evOps P T ops [o] tm mem fun tm' mem' => ptK P T ops t tm' mem' K) ∧ (opAtK ops l fun o => evOps P T ops [o] tm mem fun tm' mem' => ptK P T ops u tm' mem' K) := h
    rw [show f + 1 + g = (f + g) + 1 by omega]
    refine wpAny_all h1 (by simp) fun q hq => ?_
    simp only [List.mem_cons, List.not_mem_nil, or_false] at hq
    rcases hq with rfl | rfl | rfl | rfl
    · exact pt_op hT h'.1 ha hm fun σ tm' mem' a' w' hk ha' hm' =>
        pt_sound hT r f g _ _ h2 hk ha' hm' fun σ' tm'' mem'' a'' w'' hk' ha'' hm'' => by
          rw [List.append_assoc] at ha'' hm''
          exact hQ (σ ++ σ') _ _ _ _ hk' ha'' hm''
    · exact pt_op hT h'.2.1 ha hm fun σ tm' mem' a' w' hk ha' hm' =>
        pt_sound hT s f g _ _ h3 hk ha' hm' fun σ' tm'' mem'' a'' w'' hk' ha'' hm'' => by
          rw [List.append_assoc] at ha'' hm''
          exact hQ (σ ++ σ') _ _ _ _ hk' ha'' hm''
    · exact pt_op hT h'.2.2.1 ha hm fun σ tm' mem' a' w' hk ha' hm' =>
        pt_sound hT t f g _ _ h4 hk ha' hm' fun σ' tm'' mem'' a'' w'' hk' ha'' hm'' => by
          rw [List.append_assoc] at ha'' hm''
          exact hQ (σ ++ σ') _ _ _ _ hk' ha'' hm''
    · exact pt_op hT h'.2.2.2 ha hm fun σ tm' mem' a' w' hk ha' hm' =>
        pt_sound hT u f g _ _ h5 hk ha' hm' fun σ' tm'' mem'' a'' w'' hk' ha'' hm'' => by
          rw [List.append_assoc] at ha'' hm''
          exact hQ (σ ++ σ') _ _ _ _ hk' ha'' hm''
  | .join m t r, f, g, listed, target, hc, tm, mem, K, h, w0, ρ, w, a, ha, hm, Q, hQ => by
    have hc' : (decide (m.length ≤ f) && ptChk ops.toArray t listed (setAllT listed m) m.length && ptChk ops.toArray r (setAllT listed m) target (f - m.length)) = true := by cases f <;> exact hc
    simp only [Bool.and_eq_true, decide_eq_true_eq] at hc'
    obtain ⟨⟨h1, h2⟩, h3⟩ := hc'
    have h' : runK P T ops m tm mem fun tm2 mem2 => ptK P T ops t tm mem (fun tm' mem' => JoinK mem.length tm2 mem2 tm' mem') ∧ ptK P T ops r tm2 mem2 K := h
    obtain ⟨tm2, mem2, h4, h5⟩ := runK_ex hT h'
    rw [show f + g = m.length + ((f - m.length) + g) by omega]
    refine pt_sound hT t m.length ((f - m.length) + g) _ _ h2 h4 ha hm fun σ tm' mem' a' w' hk ha' hm' => ?_
    have hj : ∃ σ', TmAt (ρ ++ σ') tm2 a' ∧ MemAt w0 (ρ ++ σ') mem2 w' := by
      rcases hk.or with ⟨rfl, rfl⟩ | ⟨κ, hf⟩
      · exact ⟨σ, ha', hm'⟩
      · exact hf.sound hm.len ha' hm'
    obtain ⟨σ, ha', hm'⟩ := hj
    exact pt_sound hT r (f - m.length) g _ _ h3 h5 ha' hm' fun σ' tm'' mem'' a'' w'' hk' ha'' hm'' => by
      rw [List.append_assoc] at ha'' hm''
      exact hQ (σ ++ σ') _ _ _ _ hk' ha'' hm''
end

end Go.Ev
