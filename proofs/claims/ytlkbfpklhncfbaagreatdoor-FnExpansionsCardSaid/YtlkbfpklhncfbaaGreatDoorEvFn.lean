/-
  The evaluator, part 8: code and loops; functions; contracts of functions.
  Conditions: none.
-/
import Derived.Test.YtlkbfpklhncfbaaGreatDoorEvTop
set_option linter.unusedVariables false
set_option linter.unusedSimpArgs false
namespace Go.Ev
open Go.RowKit

abbrev Post := Exit → List Value → Mem → Prop

/-! ### Code -/

/-- What comes behind a round of a loop: the same state, or one that comes of it by forgetting. -/
structure NextK (m0 : Nat) (L : List Value → Mem → Prop) (tm : List Value) (mem : Mem) : Prop where
  or : L tm mem ∨ ∃ κ tm' mem', Forget m0 κ tm mem tm' mem' ∧ L tm' mem'

theorem next_same {m0 : Nat} {L : List Value → Mem → Prop} {tm : List Value} {mem : Mem} (h : L tm mem) : NextK m0 L tm mem := ⟨.inl h⟩
theorem next_forget {m0 : Nat} {L : List Value → Mem → Prop} {tm tm' : List Value} {mem mem' : Mem} (κ : List Nat) (h : L tm' mem') (ht : tmR (keepL m0 κ) mem'.length tm tm')
    (hb : memR (keepL m0 κ) mem'.length mem (keepL m0 κ) mem') (hlt : ltAll mem.length (keepL m0 κ) = true) (hnd : nodupN (keepL m0 κ) = true) : NextK m0 L tm mem :=
  ⟨.inr ⟨κ, tm', mem', ⟨⟨hlt, hnd, hb⟩, ht⟩, h⟩⟩

noncomputable def loopN (m0 : Nat) (body : List Value → Mem → Post → Prop) (n : Nat) : List Value → Mem → Post → Prop :=
  @Nat.rec (fun _ => List Value → Mem → Post → Prop) (fun _ _ _ => False) (fun _ ih tm mem K => body tm mem fun e tm' mem' => match e with
    | .normal => NextK m0 (fun tm mem => ih tm mem K) tm' mem'
    | e => K e tm' mem') n

structure LoopK (m0 : Nat) (body : List Value → Mem → Post → Prop) (tm : List Value) (mem : Mem) (K : Post) : Prop where
  ex : ∃ n, loopN m0 body n tm mem K

theorem loop_n {m0 : Nat} {body : List Value → Mem → Post → Prop} {tm : List Value} {mem : Mem} {K : Post} (n : Nat) (h : loopN m0 body n tm mem K) : LoopK m0 body tm mem K := ⟨n, h⟩

/-- Forgetting ahead of a loop. -/
structure EnterK (m0 : Nat) (L : List Value → Mem → Prop) (tm : List Value) (mem : Mem) : Prop where
  or : NextK m0 L tm mem

noncomputable def ev (P : Program) (T : Tbl) (m0 : Nat) (c : Code) : List Value → Mem → Post → Prop :=
  @Code.rec (fun _ => List Value → Mem → Post → Prop)
    (fun tm mem K => K .normal tm mem)
    (fun _ ops draw tm mem K => match draw with
      | false => evOps P T ops.toList ops.toList tm mem (K .normal)
      | true => DrawK P T ops.toList tm mem (K .normal))
    (fun _ _ iha ihb tm mem K => iha tm mem fun e tm' mem' => match e with
      | .normal => ihb tm' mem' K
      | e => K e tm' mem')
    (fun c _ _ iha ihb tm mem K => opK tm c fun cv => match cv with
      | .bool x => brK x (iha tm mem K) (ihb tm mem K)
      | _ => False)
    (fun id _ ih tm mem K => ih tm mem fun e tm' mem' => match e with
      | .exit i => match Nat.beq i id with
        | true => K .normal tm' mem'
        | false => K (.exit i) tm' mem'
      | e => K e tm' mem')
    (fun _ ih tm mem K => EnterK m0 (fun tm mem => LoopK m0 ih tm mem K) tm mem)
    (fun _ _ _ _ _ _ _ _ _ => False)
    (fun id tm mem K => K (.exit id) tm mem)
    (fun _ _ _ _ _ => False)
    (fun _ _ _ _ => False)
    (fun _ _ _ _ => False)
    (fun tm mem K => K .ret tm mem)
    (fun _ _ _ _ => False) c

theorem ev_sound {P : Program} {T : Tbl} (hT : T.Ok P) (hmix : P.follows .mixedOrders = true) {w0 : Base} {m0 : Nat} {ρ0 : List Nat} (hρ : ρ0.length = m0) : ∀ (c : Code) {tm : List Value} {mem : Mem} {K : Post}, ev P T m0 c tm mem K →
    ∀ {σ : List Nat} {w : World} {a : Act}, TmAt (ρ0 ++ σ) tm a → MemAt w0 (ρ0 ++ σ) mem w → ∀ {Q : Exit → Act → World → Prop},
    (∀ e σ tm' mem' a' w', K e tm' mem' → TmAt (ρ0 ++ σ) tm' a' → MemAt w0 (ρ0 ++ σ) mem' w' → Q e a' w') → c.wp P Q a w := by
  intro c
  induction c with
  | skip =>
    intro tm mem K h σ w a ha hm Q hQ
    exact wp_skip (hQ .normal σ tm mem a w h ha hm)
  | region id ops draw =>
    intro tm mem K h σ w a ha hm Q hQ
    cases draw with
    | false =>
      refine wp_region_list ?_
      have := evOps_sound hT ops.toList h ha hm (Q := Q) (fun σ' tm' mem' a' w' hk ha' hm' => by
        rw [List.append_assoc] at ha' hm'
        exact hQ .normal (σ ++ σ') tm' mem' a' w' hk ha' hm')
      simpa using this
    | true =>
      have := drawK_sound hT hmix (id := id) h ha hm (Q := Q) (fun σ' tm' mem' a' w' hk ha' hm' => by
        rw [List.append_assoc] at ha' hm'
        exact hQ .normal (σ ++ σ') tm' mem' a' w' hk ha' hm')
      simpa using this
  | seq x y ihx ihy =>
    intro tm mem K h σ w a ha hm Q hQ
    refine wp_seq (ihx h ha hm fun e σ' tm' mem' a' w' hk ha' hm' => ?_)
    cases e with
    | normal => exact ihy hk ha' hm' hQ
    | _ => exact hQ _ σ' _ _ _ _ hk ha' hm'
  | cond c x y ihx ihy =>
    intro tm mem K h σ w a ha hm Q hQ
    obtain ⟨cv, h, hc⟩ := opK_sound (tm := tm) (x := c) h
    split at h
    · rename_i b
      have hcb : a.eval c = .bool b := (hc _ a ha).1
      rcases br_cases h with ⟨rfl, h⟩ | ⟨rfl, h⟩
      · exact wp_cond_true hcb (ihx h ha hm hQ)
      · exact wp_cond_false hcb (ihy h ha hm hQ)
    · exact h.elim
  | block id x ih =>
    intro tm mem K h σ w a ha hm Q hQ
    refine wp_block (ih h ha hm fun e σ' tm' mem' a' w' hk ha' hm' => ?_)
    cases e with
    | exit i =>
      simp only [Exit.inBlock]
      simp only at hk
      split at hk
      · rename_i hb
        rw [if_pos (Nat.eq_of_beq_eq_true hb)]
        exact hQ .normal σ' _ _ _ _ hk ha' hm'
      · rename_i hb
        rw [if_neg (fun e => by subst e; rw [Nat.beq_refl] at hb; cases hb)]
        exact hQ (.exit i) σ' _ _ _ _ hk ha' hm'
    | _ => exact hQ _ σ' _ _ _ _ hk ha' hm'
  | loop x ih =>
    have main : ∀ {tm : List Value} {mem : Mem} {K : Post}, LoopK m0 (fun tm mem K => ev P T m0 x tm mem K) tm mem K →
        ∀ {σ : List Nat} {w : World} {a : Act}, TmAt (ρ0 ++ σ) tm a → MemAt w0 (ρ0 ++ σ) mem w → ∀ {Q : Exit → Act → World → Prop},
        (∀ e σ tm' mem' a' w', K e tm' mem' → TmAt (ρ0 ++ σ) tm' a' → MemAt w0 (ρ0 ++ σ) mem' w' → Q e a' w') → (Code.loop x).wp P Q a w := by
      intro tm mem K h σ w a ha hm Q hQ
      obtain ⟨n, h'⟩ := h.ex
      clear h
      have h := h'
      clear h'
      refine wp_loop_rounds n ?_
      induction n generalizing tm mem σ w a with
      | zero => exact h.elim
      | succ n ihn =>
        rw [rounds_succ]
        refine ih h ha hm fun e σ' tm' mem' a' w' hk ha' hm' => ?_
        cases e with
        | normal =>
          rcases hk.or with hk' | ⟨κ, tm2, mem2, hf, hk'⟩
          · exact ihn ha' hm' hk'
          · obtain ⟨σ2, ha2, hm2⟩ := hf.sound hρ ha' hm'
            exact ihn ha2 hm2 hk'
        | _ => exact hQ _ σ' _ _ _ _ hk ha' hm'
    intro tm mem K h σ w a ha hm Q hQ
    rcases h.or.or with h | ⟨κ, tm2, mem2, hf, h⟩
    · exact main h ha hm hQ
    · obtain ⟨σ2, ha2, hm2⟩ := hf.sound hρ ha hm
      exact main h ha2 hm2 hQ
  | exit id =>
    intro tm mem K h σ w a ha hm Q hQ
    exact wp_exit (hQ (.exit id) σ tm mem a w h ha hm)
  | ret =>
    intro tm mem K h σ w a ha hm Q hQ
    exact wp_ret (hQ .ret σ tm mem a w h ha hm)
  | _ => intro tm mem K h; exact h.elim

/-! ## The results of a function -/

def notTup : Value → Bool
  | .tuple _ => false
  | _ => true

def resK (T : Tbl) : List ResultVar → List Value → Mem → (List Value → Prop) → Prop
  | [], _, _, k => k []
  | .tmp t :: rest, tm, mem, k => forceV (nthV tm t) fun v => wildK v (resK T rest tm mem fun vs => k (v :: vs))
  | .cell x t :: rest, tm, mem, k => forceV (nthV tm x) fun xv => match xv with
    | .pointer (some ⟨b, off, none⟩) => lookT T t fun ti => memK mem b fun blk => partK blk.1 off ti.size ti.sh.isAgg fun v => resK T rest tm mem fun vs => k (v :: vs)
    | _ => False

def outK (T : Tbl) (rs : List ResultVar) (tm : List Value) (mem : Mem) (k : Value → Prop) : Prop :=
  resK T rs tm mem fun vs => match vs with
    | [v] => k v
    | vs => match allL notTup vs with
      | true => k (.tuple vs.toArray)
      | false => False

def resRun (a : Act) (r : ResultVar) : Sem Value := match r with
  | .tmp t => pure (a.tmps.getD t undef)
  | .cell x t => do loadVar t (← asAddr (a.tmps.getD x undef))

theorem results_eq (fn : Func) (a : Act) : results fn a.tmps = (do
    let vs ← fn.results.mapM (resRun a)
    pure (if h : vs.size = 1 then vs[0] else .tuple vs)) := rfl

theorem resK_sound {P : Program} {T : Tbl} (hT : T.Ok P) : ∀ (rs : List ResultVar) {tm : List Value} {mem : Mem} {k : List Value → Prop}, resK T rs tm mem k →
    ∃ vs, k vs ∧ ∀ w0 ρ w a, TmAt ρ tm a → MemAt w0 ρ mem w → (∀ v ∈ vs, ok2 ρ.length v) ∧
      (rs.mapM (resRun a)).run P w = .ok (vs.map (conc ρ)) w
  | [], tm, mem, k, h => ⟨[], h, fun w0 ρ w a _ _ => ⟨fun v hv => (by cases hv), rfl⟩⟩
  | .tmp t :: rest, tm, mem, k, h => by
    unfold resK at h
    rw [forceV_eq] at h
    obtain ⟨hwi, h⟩ := wildK_spec h
    obtain ⟨vs, hk, hs⟩ := resK_sound hT rest h
    refine ⟨_, hk, fun w0 ρ w a ha hm => ?_⟩
    obtain ⟨h1, h2⟩ := hs w0 ρ w a ha hm
    obtain ⟨e1, e2⟩ := ha.eval t hwi
    refine ⟨fun v hv => ?_, ?_⟩
    · rcases List.mem_cons.1 hv with rfl | hv
      · exact e2
      · exact h1 v hv
    · rw [List.mapM_cons]
      have e3 : a.tmps.getD t undef = conc ρ (nthV tm t) := e1
      simp only [resRun, Sem.run_bind, Sem.run_pure, Result.andThen_ok, e3, List.map_cons]
      simp only [h2, Result.andThen_ok]
  | .cell x t :: rest, tm, mem, k, h => by
    unfold resK at h
    rw [forceV_eq] at h
    split at h
    · rename_i b off hx
      obtain ⟨ti, hti, rfl, h'⟩ := lookT_spec h
      clear h
      obtain ⟨blk, hb, h⟩ := memK_spec h'
      clear h'
      obtain ⟨v, h', hv⟩ := partK_sound h
      clear h
      obtain ⟨vs, hk, hs⟩ := resK_sound hT rest h'
      have hTi := hT ti hti
      refine ⟨_, hk, fun w0 ρ w a ha hm => ?_⟩
      obtain ⟨h1, h2⟩ := hs w0 ρ w a ha hm
      obtain ⟨e1, e2⟩ := ha.eval x (by rw [hx]; rfl)
      have e3 : a.tmps.getD x undef = .pointer (some ⟨ρ.getD b 0, off, none⟩) := by
        have : a.tmps.getD x undef = conc ρ (nthV tm x) := e1
        rw [this, hx]; rfl
      have hl : (loadVar ti.t ⟨ρ.getD b 0, off, none⟩).run P w = .ok (conc ρ v) w ∧ ok2 ρ.length v := by
        rcases hv with ⟨hag, l, hl, hn, hnw, rfl⟩ | ⟨hag, hv, hnw⟩
        · obtain ⟨g1, g2⟩ := hm.loadCells (P := P) hb hl hn hnw
          refine ⟨?_, g2⟩
          simp only [Sem.run_bind, Sem.run_pure, Result.andThen_ok, loadVar, hTi.run_agg, hag, if_true, hTi.run_size, g1]
          rfl
        · obtain ⟨g1, g2⟩ := hm.cell hb hv hnw
          refine ⟨?_, (ok0_conc g2).2⟩
          simp only [Sem.run_bind, Result.andThen_ok, loadVar, hTi.run_agg, hag, Bool.false_eq_true, if_false, run_load, g1, (ok0_conc g2).1]
      refine ⟨fun u hu => ?_, ?_⟩
      · rcases List.mem_cons.1 hu with rfl | hu
        · exact hl.2
        · exact h1 u hu
      · rw [List.mapM_cons]
        have e4 : (resRun a (.cell x ti.t)).run P w = .ok (conc ρ v) w := by
          simp only [resRun, e3, asAddr, Sem.run_bind, Sem.run_pure, Result.andThen_ok, hl.1]
        simp only [Sem.run_bind, e4, Sem.run_pure, Result.andThen_ok, h2, List.map_cons]
    · exact h.elim

theorem ok2_notTup {n : Nat} {v : Value} (h : ok2 n v) (hn : notTup v = true) : ok1 n v := by
  cases v <;> first | exact h | cases hn
theorem conc_notTup {ρ : List Nat} {v : Value} (hn : notTup v = true) : conc ρ v = conc1 ρ v := by
  cases v <;> first | rfl | cases hn

theorem outK_sound {P : Program} {T : Tbl} (hT : T.Ok P) {fn : Func} {tm : List Value} {mem : Mem} {k : Value → Prop} (h : outK T fn.results.toList tm mem k) :
    ∃ v, k v ∧ ∀ w0 ρ w a, TmAt ρ tm a → MemAt w0 ρ mem w → ok2 ρ.length v ∧ (results fn a.tmps).run P w = .ok (conc ρ v) w := by
  obtain ⟨vs, h, hs⟩ := resK_sound hT _ h
  have hrun : ∀ w0 ρ w a, TmAt ρ tm a → MemAt w0 ρ mem w → (results fn a.tmps).run P w = .ok (if h : (vs.map (conc ρ)).toArray.size = 1 then (vs.map (conc ρ)).toArray[0] else .tuple (vs.map (conc ρ)).toArray) w := fun w0 ρ w a ha hm => by
    obtain ⟨_, h2⟩ := hs w0 ρ w a ha hm
    rw [results_eq, Array.mapM_eq_mapM_toList]
    simp only [Sem.run_bind, Sem.run_map, h2, Result.andThen_ok, Sem.run_pure]
  split at h
  · rename_i v
    refine ⟨v, h, fun w0 ρ w a ha hm => ⟨(hs w0 ρ w a ha hm).1 v (by simp), ?_⟩⟩
    rw [hrun w0 ρ w a ha hm]
    simp
  · rename_i hne
    split at h
    · rename_i hnt
      have hnt' := allL_spec hnt
      refine ⟨_, h, fun w0 ρ w a ha hm => ⟨fun v hv => ok2_notTup ((hs w0 ρ w a ha hm).1 v hv) (hnt' v hv), ?_⟩⟩
      rw [hrun w0 ρ w a ha hm]
      have hl : ¬ (vs.map (conc ρ)).toArray.size = 1 := by
        simp only [List.size_toArray, List.length_map]
        intro h1
        obtain ⟨v, hv⟩ := List.length_eq_one_iff.1 h1
        exact hne v hv
      rw [dif_neg hl]
      have : vs.map (conc ρ) = vs.map (conc1 ρ) := List.map_congr_left fun v hv => conc_notTup (hnt' v hv)
      rw [this]
      rfl
    · exact h.elim

/-- What a function has to come to. -/
def finP (T : Tbl) (rs : List ResultVar) (K : Value → Mem → Prop) : Post := fun e tm mem => match e with
  | .normal => outK T rs tm mem fun v => K v mem
  | .ret => outK T rs tm mem fun v => K v mem
  | _ => False

def undefs : Nat → List Value
  | 0 => []
  | n + 1 => undef :: undefs n

theorem undefs_eq : ∀ n, undefs n = List.replicate n undef
  | 0 => rfl
  | n + 1 => by rw [undefs, undefs_eq n, List.replicate_succ]

/-- A function, evaluated. -/
def evFn (P : Program) (T : Tbl) (fn : Func) (code : Code) (args : List Value) (mem : Mem) (K : Value → Mem → Prop) : Prop :=
  numK mem.length fun m0 => forceL (args ++ undefs (fn.ntmps - args.length)) fun tm => ev P T m0 code tm mem (finP T fn.results.toList K)

theorem evFn_sound {P : Program} {T : Tbl} (hT : T.Ok P) (hmix : P.follows .mixedOrders = true) {f : Nat} {fn : Func} {code : Code} (hf : P.funcs[f]? = some fn) (hb : fn.body = some code)
    {args : List Value} {mem : Mem} {K : Value → Mem → Prop} (h : evFn P T fn code args mem K) {w0 : Base} {ρ : List Nat} {w : World} (hm : MemAt w0 ρ mem w) (hargs : ∀ v ∈ args, ok2 ρ.length v) :
    Calls P f (args.map (conc ρ)).toArray w (fun e w' => ∃ v mem' σ, e = .returned (conc (ρ ++ σ) v) ∧ ok2 (ρ ++ σ).length v ∧ MemAt w0 (ρ ++ σ) mem' w' ∧ K v mem') := by
  unfold evFn at h
  rw [numK_eq, forceL_eq] at h
  refine calls_of_wp hf hb ?_
  refine ev_sound hT hmix hm.len code h (σ := []) (a := { tmps := _, defers := [] }) ⟨?_, fun i v hv _ => ?_, rfl⟩ (by rw [List.append_nil]; exact hm) fun e σ tm' mem' a' w' hk ha' hm' => ?_
  · simp [undefs_eq]
  · rw [List.append_nil]
    rw [undefs_eq] at hv
    have hv' := List.mem_of_getElem? hv
    refine ⟨?_, ?_⟩
    · have e1 : (args.map (conc ρ)).toArray ++ Array.replicate (fn.ntmps - args.length) undef = ((args ++ List.replicate (fn.ntmps - args.length) undef).map (conc ρ)).toArray := by
        rw [List.map_append, List.map_replicate, conc_undef]
        simp
      have e2 : ((args.map (conc ρ)).toArray ++ Array.replicate (fn.ntmps - (args.map (conc ρ)).toArray.size) undef)[i]? = some (conc ρ v) := by
        rw [List.size_toArray, List.length_map, e1]
        simp only [List.getElem?_toArray, List.getElem?_map, hv]
        rfl
      simpa using e2
    · rcases List.mem_append.1 hv' with hv' | hv'
      · exact hargs v hv'
      · rw [List.eq_of_mem_replicate hv']
        exact fun u hu => by cases hu
  · cases e with
    | normal =>
      obtain ⟨v, hk, hs⟩ := outK_sound hT hk
      obtain ⟨h1, h2⟩ := hs w0 _ w' a' ha' hm'
      exact ⟨ha'.defers, _, h2, v, mem', σ, rfl, h1, hm', hk⟩
    | ret =>
      obtain ⟨v, hk, hs⟩ := outK_sound hT hk
      obtain ⟨h1, h2⟩ := hs w0 _ w' a' ha' hm'
      exact ⟨ha'.defers, _, h2, v, mem', σ, rfl, h1, hm', hk⟩
    | _ => exact hk.elim

/-! ## Contracts -/

theorem MemAt.start (w : World) (hl : LayW w) : MemAt ⟨w, []⟩ [] [] w :=
  ⟨rfl, rfl, rfl, Nat.le_refl _, rfl, fun _ h => (by cases h), fun _ _ _ _ h => (by cases h), fun _ _ _ => rfl, fun _ _ _ h => (by cases h), fun _ _ _ h => (by cases h), fun _ _ h => (by cases h), ⟨hl, fun _ h => by cases h⟩⟩

theorem MemAt.toBelow {w w' : World} {ρ : List Nat} {mem : Mem} (h : MemAt ⟨w, []⟩ ρ mem w') : Below w.heap.size w w' :=
  ⟨h.os, h.tape, h.output, h.size, fun k hk => h.old k hk (by simp)⟩

/-- A function of plain values. -/
structure Pure (P : Program) (f : Nat) (args : List Value) (v : Value) : Prop where
  enters : Enters P f
  pargs : allL plain args = true
  pres : plain v = true
  run : ∀ w, LayW w → Calls P f args.toArray w (fun e w' => e = .returned v ∧ Below w.heap.size w w')

theorem map_conc_plain {args : List Value} (h : allL plain args = true) (ρ : List Nat) : args.map (conc ρ) = args := map_plain fun v hv => (plain_ok (allL_spec h v hv) 0 ρ).2

theorem Pure.callQ {P : Program} {f : Nat} {args : List Value} {v : Value} (h : Pure P f args v) (mem : Mem) : CallQ P f args mem v :=
  ⟨h.enters, (plain_ok h.pres _ []).1, fun w0 ρ w hm hargs => by
    rw [map_conc_plain h.pargs, (plain_ok h.pres 0 ρ).2]
    exact h.run w hm.now⟩

theorem Pure.call {P : Program} {f : Nat} {args : List Value} {v : Value} {mem : Mem} {k : Value → Mem → Prop} (h : Pure P f args v) (hk : k v mem) : CallOK P f args mem k := (h.callQ mem).call hk

theorem Pure.quiet {P : Program} {f : Nat} {args : List Value} {v : Value} {mem : Mem} {k : Value → Prop} (h : Pure P f args v) (hk : k v) : ∃ v, CallQ P f args mem v ∧ k v := ⟨v, h.callQ mem, hk⟩

structure EvGood (P : Program) (T : Tbl) : Prop where
  tbl : T.Ok P
  mix : P.follows .mixedOrders = true

/-- What is known of a function by its number. -/
structure IsFn (P : Program) (f : Nat) (fn : Func) (code : Code) : Prop where
  at_ : P.funcs[f]? = some fn
  body : fn.body = some code
  name : (fn.name == "runtime.NumGoroutine") = false

theorem IsFn.enters {P : Program} {f : Nat} {fn : Func} {code : Code} (h : IsFn P f fn code) : Enters P f := ⟨fn, h.at_, h.name, by rw [h.body]; rfl⟩

theorem pure_of {P : Program} {T : Tbl} (g : EvGood P T) {f : Nat} {fn : Func} {code : Code} (hf : IsFn P f fn code) {args : List Value} {v : Value} (ha : allL plain args = true) (hv : plain v = true)
    (h : evFn P T fn code args [] fun v' _ => v' = v) : Pure P f args v :=
  ⟨hf.enters, ha, hv, fun w hl => by
    have := evFn_sound g.tbl g.mix hf.at_ hf.body h (MemAt.start w hl) (fun u hu => (plain_ok (allL_spec ha u hu) _ []).1)
    rw [map_conc_plain ha] at this
    refine this.mono fun e w' ⟨v', mem', σ, he, _, hm, hk⟩ => ?_
    subst hk
    exact ⟨by rw [he, (plain_ok hv 0 _).2], hm.toBelow⟩⟩

/-! ## Functions that read memory that came in -/

structure RoAt (ρ0 : List Nat) (mem0 : List (List Value)) (w : World) : Prop where
  len : ρ0.length = mem0.length
  at_ : ∀ k cs, mem0[k]? = some cs → ρ0.getD k 0 < w.heap.size ∧ (∀ i x, cs[i]? = some x → w.cell? ⟨ρ0.getD k 0, i, none⟩ = some (conc0 ρ0 x)) ∧ ∀ x ∈ cs, ok0 ρ0.length x

theorem RoAt.mem {ρ0 : List Nat} {mem0 : List (List Value)} {w : World} (h : RoAt ρ0 mem0 w) (hlt : ∀ b ∈ ρ0, b < w.heap.size) (hl : LayW w) : MemAt ⟨w, []⟩ ρ0 (mem0.map fun cs => (cs, none)) w := by
  have hno : ∀ k cs t, (mem0.map fun cs => ((cs, none) : Blk))[k]? = some (cs, some t) → False := fun k cs t hk => by
    rw [List.getElem?_map] at hk
    cases hm : mem0[k]? with
    | none => rw [hm] at hk; cases hk
    | some c => rw [hm] at hk; cases hk
  refine ⟨rfl, rfl, rfl, Nat.le_refl _, by simp [h.len], hlt, fun i j cs t hi => (hno i cs t hi).elim, fun _ _ _ => rfl, fun k cs t hk => (hno k cs t hk).elim, fun k cs t hk => (hno k cs t hk).elim, fun k cs hk => ?_, ⟨hl, fun _ h => by cases h⟩⟩
  rw [List.getElem?_map] at hk
  cases hm : mem0[k]? with
  | none => rw [hm] at hk; cases hk
  | some c =>
    rw [hm] at hk
    cases hk
    obtain ⟨h1, h2, h3⟩ := h.at_ k cs hm
    exact fun _ => ⟨h1, by simp, fun i v hv _ => h2 i v hv, h3⟩

/-- A function that reads the blocks mem0 and hands back a plain value. -/
structure CallR (P : Program) (f : Nat) (args0 : List Value) (mem0 : List (List Value)) (v : Value) : Prop where
  enters : Enters P f
  pres : plain v = true
  run : ∀ w ρ0, LayW w → RoAt ρ0 mem0 w → (∀ b ∈ ρ0, b < w.heap.size) → Calls P f (args0.map (conc ρ0)).toArray w (fun e w' => e = .returned v ∧ Below w.heap.size w w')

def okBb (n : Nat) : Value → Bool
  | .pointer (some a) => Nat.blt a.block n
  | _ => true
theorem okBb_spec {n : Nat} {v : Value} (h : okBb n v = true) : okb n v := by
  unfold okBb at h
  split at h
  · exact Nat.le_of_ble_eq_true h
  · unfold okb; split <;> first | trivial | simp_all
def okB0 (n : Nat) : Value → Bool
  | .pointer (some a) => Nat.blt a.block n
  | .slice (some a) _ _ => Nat.blt a.block n
  | .agg _ | .tuple _ => false
  | .func _ _ cap => allL (okBb n) cap.toList
  | _ => true
def okB1 (n : Nat) : Value → Bool
  | .agg cs => allL (okB0 n) cs.toList
  | v => okB0 n v
theorem okB0_spec {n : Nat} {v : Value} (h : okB0 n v = true) : ok0 n v := by
  unfold okB0 at h
  split at h
  · exact Nat.le_of_ble_eq_true h
  · exact Nat.le_of_ble_eq_true h
  · cases h
  · cases h
  · exact fun v hv => okBb_spec (allL_spec h v hv)
  · unfold ok0; split <;> first | trivial | simp_all
theorem okB1_spec {n : Nat} {v : Value} (h : okB1 n v = true) : ok2 n v := by
  cases v
  case agg cs => exact fun x hx => okB0_spec (allL_spec h x hx)
  case tuple vs => cases h
  all_goals (simp only [okB1] at h; simp only [ok2, ok1]; exact okB0_spec h)

theorem callR_of {P : Program} {T : Tbl} (g : EvGood P T) {f : Nat} {fn : Func} {code : Code} (hf : IsFn P f fn code) {args0 : List Value} {mem0 : List (List Value)} {v : Value}
    (ha : allL (okB1 mem0.length) args0 = true) (hv : plain v = true) (h : evFn P T fn code args0 (mem0.map fun cs => (cs, none)) fun v' _ => v' = v) : CallR P f args0 mem0 v :=
  ⟨hf.enters, hv, fun w ρ0 hl hro hlt => by
    have := evFn_sound g.tbl g.mix hf.at_ hf.body h (hro.mem hlt hl) (fun u hu => by rw [hro.len]; exact okB1_spec (allL_spec ha u hu))
    refine this.mono fun e w' ⟨v', mem', σ, he, _, hm, hk⟩ => ?_
    subst hk
    exact ⟨by rw [he, (plain_ok hv 0 _).2], hm.toBelow⟩⟩

/-- The block b of the caller's memory holds the cells cs. -/
def Holds (mem : Mem) (b : Nat) (cs : List Value) : Prop := ∃ kd, mem[b]? = some (cs, kd)

theorem CallR.callQ1 {P : Program} {f n c : Nat} {rest : List Value} {cs : List Value} {v : Value} (h : CallR P f (.slice (some ⟨0, 0, none⟩) n c :: rest) [cs] v)
    (hr : allL plain rest = true) (hcs : allL plain0 cs = true) {mem : Mem} {b : Nat} (hm : Holds mem b cs) : CallQ P f (.slice (some ⟨b, 0, none⟩) n c :: rest) mem v :=
  ⟨h.enters, (plain_ok h.pres _ []).1, fun w0 ρ w hmem hargs => by
    obtain ⟨kd, hb⟩ := hm
    have hbl : b < ρ.length := by rw [hmem.len]; exact getElem?_len hb
    have hlt := hmem.lt _ (getD_mem (d := 0) hbl)
    have hro : RoAt [ρ.getD b 0] [cs] w := ⟨rfl, fun k cs' hk => by
      have hk0 : k = 0 := by have := getElem?_len hk; simp at this; exact this
      subst hk0
      simp at hk
      subst hk
      refine ⟨hlt, fun i x hx => ?_, fun x hx => (plain0_ok (allL_spec hcs x hx) _ []).1⟩
      have := (hmem.cell hb hx (plain0_wild (allL_spec hcs x (List.mem_of_getElem? hx)))).1
      have hp := plain0_ok (allL_spec hcs x (List.mem_of_getElem? hx)) 0
      rw [(hp [ρ.getD b 0]).2]
      rw [(hp ρ).2] at this
      exact this⟩
    have := h.run w [ρ.getD b 0] hmem.now hro (fun x hx => by simp at hx; subst hx; simpa [List.getD] using hlt)
    rw [(plain_ok h.pres 0 ρ).2]
    have e1 : (Value.slice (some ⟨b, 0, none⟩) n c :: rest).map (conc ρ) = (Value.slice (some ⟨0, 0, none⟩) n c :: rest).map (conc [ρ.getD b 0]) := by
      rw [List.map_cons, List.map_cons, map_conc_plain hr, map_conc_plain hr]
      rfl
    rw [e1]
    exact this⟩

theorem CallR.call1 {P : Program} {f n c : Nat} {rest : List Value} {cs : List Value} {v : Value} (h : CallR P f (.slice (some ⟨0, 0, none⟩) n c :: rest) [cs] v)
    (hr : allL plain rest = true) (hcs : allL plain0 cs = true) {mem : Mem} {b : Nat} {k : Value → Mem → Prop} (hm : Holds mem b cs) (hk : k v mem) : CallOK P f (.slice (some ⟨b, 0, none⟩) n c :: rest) mem k :=
  (h.callQ1 hr hcs hm).call hk
theorem CallR.quiet1 {P : Program} {f n c : Nat} {rest : List Value} {cs : List Value} {v : Value} (h : CallR P f (.slice (some ⟨0, 0, none⟩) n c :: rest) [cs] v)
    (hr : allL plain rest = true) (hcs : allL plain0 cs = true) {mem : Mem} {b : Nat} {k : Value → Prop} (hm : Holds mem b cs) (hk : k v) : ∃ v, CallQ P f (.slice (some ⟨b, 0, none⟩) n c :: rest) mem v ∧ k v :=
  ⟨v, h.callQ1 hr hcs hm, hk⟩

end Go.Ev
