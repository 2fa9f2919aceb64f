/-
  The evaluator, part 6: regions, code, loops, calls; its soundness.
  Conditions: none.
-/
import Derived.Test.YtlkbfpklhncfbaaGreatDoorEvDraw
import Derived.Test.YtlkbfpklhncfbaaGreatDoorEvApp
import Derived.LoopN
set_option linter.unusedVariables false
set_option linter.unusedSimpArgs false
namespace Go.Ev
open Go.RowKit

/-! ## Frames -/

theorem TmAt.ext {ρ : List Nat} {tm : List Value} {a : Act} (h : TmAt ρ tm a) (σ : List Nat) : TmAt (ρ ++ σ) tm a :=
  ⟨h.size, fun i v hv hw => by
    obtain ⟨h1, h2⟩ := h.get i v hv hw
    exact ⟨by rw [conc_ext h2]; exact h1, ok2_mono (by simp) h2⟩, h.defers⟩

def putT (dst : Option Nat) (v : Value) (tm : List Value) : List Value := match dst with
  | some d => tm.set d v
  | none => tm

def putK (dst : Option Nat) (v : Value) (tm : List Value) (k : List Value → Prop) : Prop := match dst with
  | some d => forceV v fun v => forceL (tm.set d v) k
  | none => k tm

theorem putK_eq (dst : Option Nat) (v : Value) (tm : List Value) (k : List Value → Prop) : putK dst v tm k = k (putT dst v tm) := by
  cases dst <;> simp [putK, putT, forceV_eq, forceL_eq]

theorem TmAt.put {ρ : List Nat} {tm : List Value} {a : Act} (h : TmAt ρ tm a) (dst : Option Nat) {v : Value} (hv : ok2 ρ.length v) : TmAt ρ (putT dst v tm) (a.put dst (conc ρ v)) := by
  cases dst with
  | none => exact h
  | some d =>
    refine ⟨by simp [putT, Act.put, h.size], fun i u hu hw => ?_, h.defers⟩
    simp only [putT, List.getElem?_set] at hu
    simp only [Act.put, Array.getElem?_setIfInBounds, h.size]
    by_cases hdi : d = i
    · subst hdi
      by_cases hl : d < tm.length
      · simp [hl] at hu
        subst hu
        simp [hl, hv]
      · simp [hl] at hu
    · simp only [hdi, if_false] at hu ⊢
      exact h.get i u hu hw

/-! ## Guards -/

def dstK : List Oper → Nat → (Nat → Prop) → Prop → Prop
  | [], _, _, z => z
  | o :: _, 0, k, z => match o.dst with
    | some d => k d
    | none => z
  | _ :: l, n + 1, k, z => dstK l n k z

theorem dstK_spec : ∀ {l : List Oper} {n : Nat} {k : Nat → Prop} {z : Prop}, dstK l n k z →
    (∃ d, (l[n]?).bind (·.dst) = some d ∧ k d) ∨ ((l[n]?).bind (·.dst) = none ∧ z)
  | [], _, _, _, h => .inr ⟨rfl, h⟩
  | o :: _, 0, k, z, h => by
    unfold dstK at h
    cases hd : o.dst with
    | none => rw [hd] at h; exact .inr ⟨by simp [hd], h⟩
    | some d => rw [hd] at h; exact .inl ⟨d, by simp [hd], h⟩
  | _ :: l, n + 1, k, z, h => by
    rcases dstK_spec (l := l) h with ⟨d, h1, h2⟩ | ⟨h1, h2⟩
    · exact .inl ⟨d, by simpa using h1, h2⟩
    · exact .inr ⟨by simpa using h1, h2⟩

def guardK (ops : List Oper) (o : Oper) (tm : List Value) (A B : Prop) : Prop := match o.guard with
  | none => A
  | some (j, want) => dstK ops j (fun d => match nthV tm d with
    | .bool b => match want with
      | true => brK b A B
      | false => brK b B A
    | .float _ _ => False
    | _ => B) B

theorem TmAt.at_ {ρ : List Nat} {tm : List Value} {a : Act} (h : TmAt ρ tm a) (d : Nat) (hw : isWild (nthV tm d) = false) : a.tmps[d]? = (tm[d]?).map (conc ρ) := by
  cases hd : tm[d]? with
  | none =>
    have : tm.length ≤ d := List.getElem?_eq_none_iff.1 hd
    rw [Array.getElem?_eq_none (by rw [h.size]; exact this)]
    rfl
  | some v =>
    have hn : nthV tm d = v := by rw [nthV_eq]; simp [List.getD, hd]
    rw [hn] at hw
    exact (h.get d v hd hw).1

theorem conc_bool {ρ : List Nat} {v : Value} {b : Bool} (h : conc ρ v = .bool b) : v = .bool b := by
  cases v <;> first | exact h | (rename_i a; cases a <;> cases h) | (rename_i a n c; cases a <;> cases h) | cases h

theorem guardK_spec {ops : List Oper} {o : Oper} {tm : List Value} {A B : Prop} (h : guardK ops o tm A B) :
    (A ∧ ∀ ρ a, TmAt ρ tm a → Region.wanted o (yielded ops.toArray a.tmps) = true) ∨ (B ∧ ∀ ρ a, TmAt ρ tm a → Region.wanted o (yielded ops.toArray a.tmps) = false) := by
  unfold guardK at h
  cases hg : o.guard with
  | none => rw [hg] at h; exact .inl ⟨h, fun ρ a _ => by simp [Region.wanted, hg]⟩
  | some gw =>
    obtain ⟨j, want⟩ := gw
    rw [hg] at h
    rcases dstK_spec h with ⟨d, hd, h⟩ | ⟨hd, h⟩
    · have hd' : (ops.toArray[j]?).bind (·.dst) = some d := by simpa using hd
      have hy : isWild (nthV tm d) = false → ∀ ρ a, TmAt ρ tm a → yielded ops.toArray a.tmps j = (match (tm[d]?).map (conc ρ) with | some (.bool b) => some b | _ => none) := fun hwi ρ a ha => by
        unfold yielded
        rw [hd', Option.bind_some, ha.at_ d hwi]
        rfl
      have hn : nthV tm d = (tm[d]?).getD undef := by rw [nthV_eq]; simp [List.getD]
      split at h
      · rename_i b hb
        have htd : tm[d]? = some (.bool b) := by
          rw [hn] at hb
          cases ht : tm[d]? with
          | none => rw [ht] at hb; cases hb
          | some v => rw [ht] at hb; simp at hb; rw [hb]
        have hy' : ∀ ρ a, TmAt ρ tm a → yielded ops.toArray a.tmps j = some b := fun ρ a ha => by rw [hy (by rw [hb]; rfl) ρ a ha, htd]; rfl
        split at h
        · rcases br_cases h with ⟨rfl, h⟩ | ⟨rfl, h⟩
          · exact .inl ⟨h, fun ρ a ha => by simp [Region.wanted, hg, hy' ρ a ha]⟩
          · exact .inr ⟨h, fun ρ a ha => by simp [Region.wanted, hg, hy' ρ a ha]⟩
        · rcases br_cases h with ⟨rfl, h⟩ | ⟨rfl, h⟩
          · exact .inr ⟨h, fun ρ a ha => by simp [Region.wanted, hg, hy' ρ a ha]⟩
          · exact .inl ⟨h, fun ρ a ha => by simp [Region.wanted, hg, hy' ρ a ha]⟩
      · exact h.elim
      · rename_i hnb hnf
        have hwi : isWild (nthV tm d) = false := by
          cases hv : nthV tm d <;> first | rfl | exact (hnf _ _ hv).elim
        refine .inr ⟨h, fun ρ a ha => ?_⟩
        have : yielded ops.toArray a.tmps j = none := by
          rw [hy hwi ρ a ha]
          split
          · rename_i b hb
            exfalso
            cases ht : tm[d]? with
            | none => rw [ht] at hb; cases hb
            | some v =>
              rw [ht] at hb
              simp only [Option.map_some, Option.some.injEq] at hb
              have := conc_bool hb
              subst this
              exact hnb b (by rw [hn, ht]; rfl)
          · rfl
        simp [Region.wanted, hg, this]
    · refine .inr ⟨h, fun ρ a _ => ?_⟩
      have : yielded ops.toArray a.tmps j = none := by
        unfold yielded
        have : (ops.toArray[j]?).bind (·.dst) = none := by simpa using hd
        rw [this]; rfl
      simp [Region.wanted, hg, this]

/-! ## Calls -/

def Enters (P : Program) (f : Nat) : Prop := ∃ fn, P.funcs[f]? = some fn ∧ (fn.name == "runtime.NumGoroutine") = false ∧ fn.body.isNone = false

theorem Enters.run {P : Program} {f : Nat} (h : Enters P f) (args : Array Value) (w : World) : (callFunc f args).run P w = .ok (.enter f args) w := by
  obtain ⟨fn, h1, h2, h3⟩ := h
  simp only [callFunc, Sem.run_bind, run_program, Result.andThen_ok, h1, h2, h3, Bool.false_eq_true, if_false, Sem.run_pure]

/-- A call, seen from the caller: what it hands back, and the local memory behind it. -/
structure CallOK (P : Program) (f : Nat) (args : List Value) (mem : Mem) (k : Value → Mem → Prop) : Prop where
  enters : Enters P f
  run : ∀ w0 ρ w, MemAt w0 ρ mem w → (∀ v ∈ args, ok2 ρ.length v) → Calls P f (args.map (conc ρ)).toArray w
    (fun e w' => ∃ v mem' σ, e = .returned (conc (ρ ++ σ) v) ∧ ok2 (ρ ++ σ).length v ∧ MemAt w0 (ρ ++ σ) mem' w' ∧ k v mem')

/-- A call that leaves all that there was alone and hands back a value that no new memory is needed for. -/
structure CallQ (P : Program) (f : Nat) (args : List Value) (mem : Mem) (v : Value) : Prop where
  enters : Enters P f
  ok : ok2 mem.length v
  run : ∀ w0 ρ w, MemAt w0 ρ mem w → (∀ v ∈ args, ok2 ρ.length v) → Calls P f (args.map (conc ρ)).toArray w
    (fun e w' => e = .returned (conc ρ v) ∧ Below w.heap.size w w')

theorem CallQ.call {P : Program} {f : Nat} {args : List Value} {mem : Mem} {v : Value} {k : Value → Mem → Prop} (h : CallQ P f args mem v) (hk : k v mem) : CallOK P f args mem k :=
  ⟨h.enters, fun w0 ρ w hm hargs => (h.run w0 ρ w hm hargs).mono fun e w' ⟨he, hb⟩ =>
    ⟨v, mem, [], by rw [List.append_nil]; exact he, by rw [List.append_nil, hm.len]; exact h.ok, by rw [List.append_nil]; exact hm.below hb, hk⟩⟩

def calleeK (tm : List Value) (x : Operand) (args : Array Operand) (k : Nat → List Value → Prop) : Prop :=
  opK tm x fun fv => argsK tm args.toList fun vs => match fv with
    | .func (.func n) first captured => match first.toList, captured.toList with
      | [], [] => k n vs
      | [], cs => match allL isPtr cs with
        | true => forceL (vs ++ cs) fun l => k n l
        | false => False
      | _, _ => False
    | _ => False

theorem calleeK_sound {P : Program} {tm : List Value} {x : Operand} {args : Array Operand} {k : Nat → List Value → Prop} (h : calleeK tm x args k) :
    ∃ n vs, k n vs ∧ ∀ ρ a, TmAt ρ tm a → (∀ v ∈ vs, ok2 ρ.length v) ∧ ∀ (o : Oper) ts, o.op = .call { callee := .value x, args := args, argTypes := ts } → Enters P n →
      ∀ w, (execOp a.eval o).run P w = .ok (.enter n (vs.map (conc ρ)).toArray) w := by
  obtain ⟨fv, h1, hf⟩ := opK_sound h
  clear h
  obtain ⟨vs, h, hvs⟩ := argsK_sound h1
  clear h1
  split at h
  · rename_i n first captured
    split at h
    · rename_i h1 h2
      have h1' : first = #[] := by simpa using h1
      have h2' : captured = #[] := by simpa using h2
      subst h1' h2'
      refine ⟨n, vs, h, fun ρ a ha => ⟨(hvs ρ a ha).2, fun o ts ho he w => ?_⟩⟩
      have ef : a.eval x = .func (.func n) #[] #[] := (hf ρ a ha).1
      have ea : args.map a.eval = (vs.map (conc ρ)).toArray := by
        apply Array.ext'
        simpa using (hvs ρ a ha).1
      simp only [execOp, ho, resolve, ef, ea, Deferred.ofValue, Sem.run_bind, Sem.run_pure, Result.andThen_ok, invoke]
      rw [show (#[] ++ (vs.map (conc ρ)).toArray ++ #[] : Array Value) = (vs.map (conc ρ)).toArray by simp]
      exact he.run _ w
    · rename_i h1 hne
      have h1' : first = #[] := by simpa using h1
      subst h1'
      split at h
      · rename_i hp
        have hp := allL_spec hp
        rw [forceL_eq] at h
        refine ⟨n, _, h, fun ρ a ha => ⟨fun v hv => ?_, fun o ts ho he w => ?_⟩⟩
        · rcases List.mem_append.1 hv with hv | hv
          · exact (hvs ρ a ha).2 v hv
          · exact (isPtr_conc (hp v hv)).2.2 ((hf ρ a ha).2 v hv)
        · have ef : a.eval x = .func (.func n) #[] (captured.toList.map (concb ρ)).toArray := (hf ρ a ha).1
          have ea : args.map a.eval = (vs.map (conc ρ)).toArray := by
            apply Array.ext'
            simpa using (hvs ρ a ha).1
          simp only [execOp, ho, resolve, ef, ea, Deferred.ofValue, Sem.run_bind, Sem.run_pure, Result.andThen_ok, invoke]
          rw [show (#[] ++ (vs.map (conc ρ)).toArray ++ (captured.toList.map (concb ρ)).toArray : Array Value) = ((vs ++ captured.toList).map (conc ρ)).toArray by
            rw [List.map_append, List.map_congr_left fun v hv => ((isPtr_conc (hp v hv)).1).symm]; simp]
          exact he.run _ w
      · exact h.elim
    · exact h.elim
  · exact h.elim

def isStrSh : Sh → Bool
  | .string => true
  | _ => false

def isIntSh : Sh → Bool
  | .int .i64 => true
  | _ => false

/-! ## One operation, and a region in the text's order -/

def evOper (P : Program) (T : Tbl) (o : Oper) (tm : List Value) (mem : Mem) (K : List Value → Mem → Prop) : Prop :=
  match o.op with
  | .call { callee := .value x, args := args, argTypes := _ } => calleeK tm x args fun n vs => CallOK P n vs mem fun v mem' => putK o.dst v tm fun tm' => K tm' mem'
  | .call { callee := .builtin .append, args := args, argTypes := ts } => match ts.toList with
    | [t, t'] => match Nat.beq t t' with
      | true => lookT T t fun ti => match ti.sh with
        | .slice e es => lookT T e fun ei => argsK tm args.toList fun vs => AppK P t e es ei.bytes ei.zero vs mem fun v mem' => putK o.dst v tm fun tm' => K tm' mem'
        | _ => False
      | false => lookT T t' fun ti' => match isStrSh ti'.sh with
        | true => lookT T t fun ti => match ti.sh with
          | .slice e es => lookT T e fun ei => argsK tm args.toList fun vs => AppS P t t' e es ei.bytes ei.zero vs mem fun v mem' => putK o.dst v tm fun tm' => K tm' mem'
          | _ => False
        | false => match isIntSh ti'.sh with
          | true => lookT T t fun ti => match ti.sh with
            | .slice e es => lookT T e fun ei => argsK tm args.toList fun vs => AppZ P t t' e es ei.bytes ei.zero vs mem fun v mem' => putK o.dst v tm fun tm' => K tm' mem'
            | _ => False
          | false => False
    | _ => False
  | .call { callee := .builtin .clear, args := args, argTypes := ts } => match ts.toList with
    | [t] => lookT T t fun ti => match ti.sh with
      | .slice e es => lookT T e fun ei => argsK tm args.toList fun vs => ClrK P t e es ei.zero vs mem fun mem' => putK o.dst (.tuple #[]) tm fun tm' => K tm' mem'
      | _ => False
    | _ => False
  | .alloc t => evM T (.alloc t) tm mem fun v mem' => putK o.dst v tm fun tm' => K tm' mem'
  | .box t x => evM T (.box t x) tm mem fun v mem' => putK o.dst v tm fun tm' => K tm' mem'
  | .store t x y => evM T (.store t x y) tm mem fun v mem' => putK o.dst v tm fun tm' => K tm' mem'
  | .buildSlice t n ps => evM T (.buildSlice t n ps) tm mem fun v mem' => putK o.dst v tm fun tm' => K tm' mem'
  | .makeSlice t l c => evM T (.makeSlice t l c) tm mem fun v mem' => putK o.dst v tm fun tm' => K tm' mem'
  | op => evR T op tm mem fun v => putK o.dst v tm fun tm' => K tm' mem

/-- By the recursor itself: so the rest of the list stands in the same form whether Lean's elaborator or its kernel has computed. -/
noncomputable def evOps (P : Program) (T : Tbl) (ops : List Oper) (l : List Oper) : List Value → Mem → (List Value → Mem → Prop) → Prop :=
  @List.rec Oper (fun _ => List Value → Mem → (List Value → Mem → Prop) → Prop) (fun tm mem K => K tm mem)
    (fun o _ ih tm mem K => guardK ops o tm (evOper P T o tm mem fun tm' mem' => ih tm' mem' K) (putK o.dst undef tm fun tm' => ih tm' mem K)) l

theorem evM_upon {P : Program} {T : Tbl} (hT : T.Ok P) (o : Oper) {tm : List Value} {mem : Mem} {k : List Value → Mem → Prop}
    (h : evM T o.op tm mem fun v mem' => putK o.dst v tm fun tm' => k tm' mem') {w0 : Base} {ρ : List Nat} {w : World} {a : Act} (ha : TmAt ρ tm a) (hm : MemAt w0 ρ mem w) {next : Act → World → Prop} {Q : Exit → Act → World → Prop}
    (hnext : ∀ σ tm' mem' a' w', k tm' mem' → TmAt (ρ ++ σ) tm' a' → MemAt w0 (ρ ++ σ) mem' w' → next a' w') : o.wp P a w next Q := by
  obtain ⟨v, mem', hk, hs⟩ := evM_sound hT o h
  rw [putK_eq] at hk
  obtain ⟨σ, w', r, hr, hv, hm', hok⟩ := hs w0 ρ w a ha hm
  unfold Oper.wp
  rw [hr]
  rcases hv with rfl | ⟨rfl, rfl⟩
  · simp only [Oper.upon]
    exact hnext σ _ _ _ _ hk ((ha.ext σ).put o.dst hok) hm'
  · simp only [Oper.upon]
    exact hnext σ _ _ _ _ hk ((ha.ext σ).put o.dst hok) hm'

theorem evR_upon {P : Program} {T : Tbl} (hT : T.Ok P) (o : Oper) {tm : List Value} {mem : Mem} {k : List Value → Mem → Prop}
    (h : evR T o.op tm mem fun v => putK o.dst v tm fun tm' => k tm' mem) {w0 : Base} {ρ : List Nat} {w : World} {a : Act} (ha : TmAt ρ tm a) (hm : MemAt w0 ρ mem w) {next : Act → World → Prop} {Q : Exit → Act → World → Prop}
    (hnext : ∀ σ tm' mem' a' w', k tm' mem' → TmAt (ρ ++ σ) tm' a' → MemAt w0 (ρ ++ σ) mem' w' → next a' w') : o.wp P a w next Q := by
  obtain ⟨v, hk, hs⟩ := evR_sound hT o h
  rw [putK_eq] at hk
  obtain ⟨hr, hok⟩ := hs w0 ρ w a ha hm
  unfold Oper.wp
  rw [hr]
  simp only [Oper.upon]
  refine hnext [] _ _ _ _ hk ?_ ?_
  · rw [List.append_nil]; exact ha.put o.dst hok
  · rw [List.append_nil]; exact hm

theorem evOper_sound {P : Program} {T : Tbl} (hT : T.Ok P) (o : Oper) {tm : List Value} {mem : Mem} {k : List Value → Mem → Prop}
    (h : evOper P T o tm mem k) {w0 : Base} {ρ : List Nat} {w : World} {a : Act} (ha : TmAt ρ tm a) (hm : MemAt w0 ρ mem w) {next : Act → World → Prop} {Q : Exit → Act → World → Prop}
    (hnext : ∀ σ tm' mem' a' w', k tm' mem' → TmAt (ρ ++ σ) tm' a' → MemAt w0 (ρ ++ σ) mem' w' → next a' w') : o.wp P a w next Q := by
  unfold evOper at h
  split at h
  · rename_i x args ts hop
    obtain ⟨n, vs, hk, hs⟩ := calleeK_sound (P := P) h
    obtain ⟨hok, hrun⟩ := hs ρ a ha
    unfold Oper.wp
    rw [hrun o ts hop hk.enters w]
    simp only [Oper.upon]
    refine (hk.run w0 ρ w hm hok).mono fun e w' ⟨v, mem', σ, he, hv, hm', hk'⟩ => ?_
    subst he
    rw [putK_eq] at hk'
    exact hnext σ _ _ _ _ hk' ((ha.ext σ).put o.dst hv) hm'
  · rename_i args ts hop
    split at h
    · rename_i t t' hts
      split at h
      · rename_i htt
        have htt' := Nat.eq_of_beq_eq_true htt
        subst htt'
        have hts' : ts = #[t, t] := by
          apply Array.ext'
          simpa using hts
        obtain ⟨ti, hti, rfl, h'⟩ := lookT_spec h
        clear h
        have hTs := (hT ti hti).sh
        split at h'
        · rename_i e es hsh
          rw [hsh] at hTs
          obtain ⟨hs1, hs2⟩ := hTs
          obtain ⟨ei, hei, rfl, h⟩ := lookT_spec h'
          clear h'
          obtain ⟨vs, hk, hvs⟩ := argsK_sound h
          clear h
          have hE := (hT ei hei).info
          cases hi : P.info? ei.t with
          | none => rw [hi] at hE; cases hE
          | some i =>
            rw [hi] at hE hs2
            simp only [Option.map_some, Option.some.injEq, Prod.mk.injEq] at hE hs2
            obtain ⟨hz, hsz, hby⟩ := hE
            cases hiz : i.zero with
            | none => rw [hiz] at hz; cases hz
            | some zv =>
              rw [hiz] at hz
              simp only [Option.map_some, Option.some.injEq] at hz
              obtain ⟨e1, e2⟩ := hvs ρ a ha
              obtain ⟨w', v, mem', σ, hr, hv, hm', hk'⟩ := hk.run i zv hs1 hi hiz hs2 hby hz w0 ρ w o.type hm e2
              have ea : args.map a.eval = (vs.map (conc ρ)).toArray := by
                apply Array.ext'
                simpa using e1
              rw [putK_eq] at hk'
              unfold Oper.wp execOp
              simp only [hop, resolve, invoke, builtin, Sem.run_bind, Sem.run_pure, Result.andThen_ok, hts', ea, hr]
              simp only [Oper.upon]
              exact hnext σ _ _ _ _ hk' ((ha.ext σ).put o.dst hv) hm'
        · exact h'.elim
      · obtain ⟨ti', hti', rfl, h2⟩ := lookT_spec h
        clear h
        split at h2
        · rename_i hstr
          have hst : P.underlying ti'.t = some .string := by
            have := (hT ti' hti').sh
            cases hsh : ti'.sh <;> rw [hsh] at hstr this <;> first | exact this | cases hstr
          have hts' : ts = #[t, ti'.t] := by
            apply Array.ext'
            simpa using hts
          obtain ⟨ti, hti, rfl, h'⟩ := lookT_spec h2
          clear h2
          have hTs := (hT ti hti).sh
          split at h'
          · rename_i e es hsh
            rw [hsh] at hTs
            obtain ⟨hs1, hs2⟩ := hTs
            obtain ⟨ei, hei, rfl, h⟩ := lookT_spec h'
            clear h'
            obtain ⟨vs, hk, hvs⟩ := argsK_sound h
            clear h
            have hE := (hT ei hei).info
            cases hi : P.info? ei.t with
            | none => rw [hi] at hE; cases hE
            | some i =>
              rw [hi] at hE hs2
              simp only [Option.map_some, Option.some.injEq, Prod.mk.injEq] at hE hs2
              obtain ⟨hz, hsz, hby⟩ := hE
              cases hiz : i.zero with
              | none => rw [hiz] at hz; cases hz
              | some zv =>
                rw [hiz] at hz
                simp only [Option.map_some, Option.some.injEq] at hz
                obtain ⟨e1, e2⟩ := hvs ρ a ha
                obtain ⟨w', v, mem', σ, hr, hv, hm', hk'⟩ := hk.run i zv hs1 hst hi hiz hs2 hby hz w0 ρ w o.type hm e2
                have ea : args.map a.eval = (vs.map (conc ρ)).toArray := by
                  apply Array.ext'
                  simpa using e1
                rw [putK_eq] at hk'
                unfold Oper.wp execOp
                simp only [hop, resolve, invoke, builtin, Sem.run_bind, Sem.run_pure, Result.andThen_ok, hts', ea, hr]
                simp only [Oper.upon]
                exact hnext σ _ _ _ _ hk' ((ha.ext σ).put o.dst hv) hm'
          · exact h'.elim
        · split at h2
          · rename_i hint
            have hst : P.underlying ti'.t = some (.int .i64) := by
              have := (hT ti' hti').sh
              cases hsh : ti'.sh with
              | int k => rw [hsh] at hint this; cases k <;> first | exact this | cases hint
              | _ => rw [hsh] at hint; cases hint
            have hts' : ts = #[t, ti'.t] := by
              apply Array.ext'
              simpa using hts
            obtain ⟨ti, hti, rfl, h'⟩ := lookT_spec h2
            clear h2
            have hTs := (hT ti hti).sh
            split at h'
            · rename_i e es hsh
              rw [hsh] at hTs
              obtain ⟨hs1, hs2⟩ := hTs
              obtain ⟨ei, hei, rfl, h⟩ := lookT_spec h'
              clear h'
              obtain ⟨vs, hk, hvs⟩ := argsK_sound h
              clear h
              have hE := (hT ei hei).info
              cases hi : P.info? ei.t with
              | none => rw [hi] at hE; cases hE
              | some i =>
                rw [hi] at hE hs2
                simp only [Option.map_some, Option.some.injEq, Prod.mk.injEq] at hE hs2
                obtain ⟨hz, hsz, hby⟩ := hE
                cases hiz : i.zero with
                | none => rw [hiz] at hz; cases hz
                | some zv =>
                  rw [hiz] at hz
                  simp only [Option.map_some, Option.some.injEq] at hz
                  obtain ⟨e1, e2⟩ := hvs ρ a ha
                  obtain ⟨w', v, mem', σ, hr, hv, hm', hk'⟩ := hk.run i zv hs1 hst hi hiz hs2 hby hz w0 ρ w o.type hm e2
                  have ea : args.map a.eval = (vs.map (conc ρ)).toArray := by
                    apply Array.ext'
                    simpa using e1
                  rw [putK_eq] at hk'
                  unfold Oper.wp execOp
                  simp only [hop, resolve, invoke, builtin, Sem.run_bind, Sem.run_pure, Result.andThen_ok, hts', ea, hr]
                  simp only [Oper.upon]
                  exact hnext σ _ _ _ _ hk' ((ha.ext σ).put o.dst hv) hm'
            · exact h'.elim
          · exact h2.elim
    · exact h.elim
  · rename_i args ts hop
    split at h
    · rename_i t hts
      have hts' : ts = #[t] := by
        apply Array.ext'
        simpa using hts
      obtain ⟨ti, hti, rfl, h'⟩ := lookT_spec h
      clear h
      have hTs := (hT ti hti).sh
      split at h'
      · rename_i e es hsh
        rw [hsh] at hTs
        obtain ⟨hs1, hs2⟩ := hTs
        obtain ⟨ei, hei, rfl, h⟩ := lookT_spec h'
        clear h'
        obtain ⟨vs, hk, hvs⟩ := argsK_sound h
        clear h
        have hE := (hT ei hei).info
        cases hi : P.info? ei.t with
        | none => rw [hi] at hE; cases hE
        | some i =>
          rw [hi] at hE hs2
          simp only [Option.map_some, Option.some.injEq, Prod.mk.injEq] at hE hs2
          obtain ⟨hz, hsz, hby⟩ := hE
          cases hiz : i.zero with
          | none => rw [hiz] at hz; cases hz
          | some zv =>
            rw [hiz] at hz
            simp only [Option.map_some, Option.some.injEq] at hz
            obtain ⟨e1, e2⟩ := hvs ρ a ha
            obtain ⟨w', mem', hr, hm', hk'⟩ := hk.run i zv hs1 hi hiz hs2 hz w0 ρ w o.type hm e2
            have ea : args.map a.eval = (vs.map (conc ρ)).toArray := by
              apply Array.ext'
              simpa using e1
            rw [putK_eq] at hk'
            unfold Oper.wp execOp
            simp only [hop, resolve, invoke, builtin, Sem.run_bind, Sem.run_pure, Result.andThen_ok, hts', ea, hr]
            simp only [Oper.upon]
            have hv : ok2 (ρ ++ []).length (.tuple #[]) := fun v hv => by cases hv
            exact hnext [] _ _ _ _ hk' ((ha.ext []).put o.dst hv) (by rw [List.append_nil]; exact hm')
      · exact h'.elim
    · exact h.elim
  · rename_i t hop; rw [← hop] at h; exact evM_upon hT o h ha hm hnext
  · rename_i t x hop; rw [← hop] at h; exact evM_upon hT o h ha hm hnext
  · rename_i t x y hop; rw [← hop] at h; exact evM_upon hT o h ha hm hnext
  · rename_i t n ps hop; rw [← hop] at h; exact evM_upon hT o h ha hm hnext
  · rename_i t l c hop; rw [← hop] at h; exact evM_upon hT o h ha hm hnext
  · exact evR_upon hT o h ha hm hnext

theorem evOps_sound {P : Program} {T : Tbl} (hT : T.Ok P) {ops : List Oper} : ∀ (l : List Oper) {tm : List Value} {mem : Mem} {K : List Value → Mem → Prop}, evOps P T ops l tm mem K →
    ∀ {w0 : Base} {ρ : List Nat} {w : World} {a : Act}, TmAt ρ tm a → MemAt w0 ρ mem w → ∀ {Q : Exit → Act → World → Prop},
    (∀ σ tm' mem' a' w', K tm' mem' → TmAt (ρ ++ σ) tm' a' → MemAt w0 (ρ ++ σ) mem' w' → Q .normal a' w') → wpList P ops.toArray Q l a w
  | [], tm, mem, K, h, w0, ρ, w, a, ha, hm, Q, hQ => by
    exact hQ [] tm mem a w h (by rw [List.append_nil]; exact ha) (by rw [List.append_nil]; exact hm)
  | o :: l, tm, mem, K, h, w0, ρ, w, a, ha, hm, Q, hQ => by
    have h : guardK ops o tm (evOper P T o tm mem fun tm' mem' => evOps P T ops l tm' mem' K) (putK o.dst undef tm fun tm' => evOps P T ops l tm' mem K) := h
    rcases guardK_spec h with ⟨h, hw⟩ | ⟨h, hw⟩
    · unfold wpList
      rw [hw ρ a ha]
      simp only [if_true]
      refine .inl (evOper_sound hT o h ha hm fun σ tm' mem' a' w' hk ha' hm' => ?_)
      refine evOps_sound hT l hk ha' hm' fun σ' tm'' mem'' a'' w'' hk' ha'' hm'' => ?_
      rw [List.append_assoc] at ha'' hm''
      exact hQ (σ ++ σ') _ _ _ _ hk' ha'' hm''
    · unfold wpList
      rw [hw ρ a ha]
      simp only [Bool.false_eq_true, if_false]
      rw [putK_eq] at h
      exact evOps_sound hT l h (ha.put o.dst (v := undef) (fun v hv => by cases hv)) hm hQ

end Go.Ev
