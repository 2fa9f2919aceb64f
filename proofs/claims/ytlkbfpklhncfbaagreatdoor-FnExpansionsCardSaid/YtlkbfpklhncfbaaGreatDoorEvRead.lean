/-
  The evaluator, part 3: the operations that only read are sound.
  Conditions: none.
-/
import Derived.Test.YtlkbfpklhncfbaaGreatDoorEvOps
import Derived.Laws.BytesString
set_option linter.unusedVariables false
set_option linter.unusedSimpArgs false
namespace Go.Ev
open Go.RowKit

def PlaceAt : Sh → Nat → Nat → Nat → Prop
  | .arr _ _ es _, i, o, s => o = i * es ∧ s = es
  | .slice _ es, i, o, s => o = i * es ∧ s = es
  | .str fs, i, o, s => ∃ a, fs[i]? = some (o, s, a)
  | _, _, _, _ => False

theorem placeK_spec {sh : Sh} {i : Nat} {k : Nat → Nat → Prop} (h : placeK sh i k) : ∃ o s, PlaceAt sh i o s ∧ k o s := by
  cases sh with
  | arr n e es a => exact ⟨_, _, ⟨rfl, rfl⟩, h⟩
  | slice e es => exact ⟨_, _, ⟨rfl, rfl⟩, h⟩
  | str fs =>
    obtain ⟨⟨o, s, a⟩, h1, h2⟩ := fldK_spec h
    exact ⟨o, s, ⟨a, h1⟩, h2⟩
  | _ => exact h.elim

theorem splice_map (f : Value → Value) (cs : List Value) (o : Nat) (vs : List Value) : (splice cs o vs).map f = splice (cs.map f) o (vs.map f) := by
  simp [splice, List.map_take, List.map_drop]

theorem splice_mem {p : Value → Prop} {cs vs : List Value} {o : Nat} (h1 : ∀ v ∈ cs, p v) (h2 : ∀ v ∈ vs, p v) : ∀ v ∈ splice cs o vs, p v := by
  intro v hv
  simp only [splice, List.mem_append] at hv
  rcases hv with (hv | hv) | hv
  · exact h1 v (List.mem_of_mem_take hv)
  · exact h2 v hv
  · exact h1 v (List.mem_of_mem_drop hv)

theorem splice_length {cs vs : List Value} {o : Nat} (h : o + vs.length ≤ cs.length) : (splice cs o vs).length = cs.length := by
  simp [splice]; omega

theorem fillK_sound {tm : List Value} {sh : Sh} : ∀ {parts : List (Nat × Operand)} {cs : List Value} {k : List Value → Prop}, fillK tm sh parts cs k →
    ∃ cs', k cs' ∧ ∀ ρ a (place : Nat → Option (Nat × Nat)), TmAt ρ tm a → (∀ i o s, PlaceAt sh i o s → place i = some (o, s)) → (∀ v ∈ cs, ok0 ρ.length v) →
      Instr.fill place (cs.map (conc0 ρ)).toArray (parts.map fun p => (p.1, a.eval p.2)) = some (cs'.map (conc0 ρ)).toArray ∧ ∀ v ∈ cs', ok0 ρ.length v
  | [], cs, k, h => ⟨cs, h, fun ρ a place _ _ hok => ⟨rfl, hok⟩⟩
  | (i, x) :: rest, cs, k, h => by
    unfold fillK at h
    obtain ⟨o, s, hp, h⟩ := placeK_spec h
    obtain ⟨v, h, hv⟩ := opK_sound h
    obtain ⟨h, hc1, hc2⟩ := cellsK_sound h
    split at h
    · rename_i hb
      rw [forceL_eq] at h
      simp only [Bool.and_eq_true] at hb
      have e1 := Nat.eq_of_beq_eq_true hb.1
      have e2 := Nat.le_of_ble_eq_true hb.2
      obtain ⟨cs', h1, h2⟩ := fillK_sound h
      refine ⟨cs', h1, fun ρ a place ha hpl hok => ?_⟩
      obtain ⟨he, hvok⟩ := hv ρ a ha
      have hpl' := hpl i o s hp
      have hcok := hc1 ρ.length hvok
      have h3 := h2 ρ a place ha hpl (splice_mem hok hcok)
      refine ⟨?_, h3.2⟩
      rw [← h3.1, List.map_cons, Instr.fill, hpl']
      simp only
      have hcc : (a.eval x).cells = (v.cells.toList.map (conc0 ρ)).toArray := by rw [he]; exact hc2 ρ
      rw [hcc]
      have hsz : ((v.cells.toList.map (conc0 ρ)).toArray).size = s := by simpa using e1
      rw [if_neg (by simp only [hsz, ne_eq, not_true, decide_false, Bool.false_or, decide_eq_true_eq]; simp; omega)]
      congr 1
      apply Array.ext'
      rw [splice_map]
      have hz := zipIdx_fold o (v.cells.toList.map (conc0 ρ)) 0 (cs.map (conc0 ρ)).toArray (by simp; simp at e1; omega)
      simp only [Nat.add_zero] at hz
      rw [← hz, ← Array.foldl_toList]
      simp
    · exact h.elim

theorem run_mapM_list {P : Program} {w : World} {α β : Type} {f : α → Sem β} {g : α → β} : ∀ (l : List α), (∀ x ∈ l, (f x).run P w = .ok (g x) w) → (l.mapM f).run P w = .ok (l.map g) w
  | [], _ => rfl
  | x :: l, h => by
    rw [List.mapM_cons]
    simp only [Sem.run_bind, h x (by simp), Result.andThen_ok, run_mapM_list l (fun y hy => h y (by simp [hy])), Sem.run_pure, List.map_cons]

theorem zero_ok {P : Program} {ti : TI} (h : ti.Ok P) (n : Nat) : ∀ v ∈ ti.zero, ok0 n v := fun v hv => (plain0_ok (allL_spec h.zplain v hv) n []).1
theorem zero_conc {P : Program} {ti : TI} (h : ti.Ok P) (ρ : List Nat) : ti.zero.map (conc0 ρ) = ti.zero := map_plain fun v hv => (plain0_ok (allL_spec h.zplain v hv) 0 ρ).2

theorem build_sound {P : Program} {ti : TI} (hT : ti.Ok P) {parts : Array (Nat × Operand)} {cs : List Value}
    (hag : ti.sh.isAgg = true) {ρ : List Nat} {a : Act}
    (hf : ∀ place : Nat → Option (Nat × Nat), (∀ i o s, PlaceAt ti.sh i o s → place i = some (o, s)) →
      Instr.fill place (ti.zero.map (conc0 ρ)).toArray (parts.toList.map fun p => (p.1, a.eval p.2)) = some (cs.map (conc0 ρ)).toArray) (w : World) :
    (Instr.build ti.t (parts.map fun (i, x) => (i, a.eval x))).run P w = .ok (.agg (cs.map (conc0 ρ)).toArray) w := by
  obtain ⟨z, hz1, hz2⟩ := hT.run_zero w
  have hpl : (parts.map fun (i, x) => (i, a.eval x)).toList = parts.toList.map fun p => (p.1, a.eval p.2) := by simp
  have hza : z.cells = (ti.zero.map (conc0 ρ)).toArray := by rw [zero_conc hT, ← hz2]
  have hs := hT.sh
  cases hsh : ti.sh with
  | arr n e es ag =>
    rw [hsh] at hs hf
    obtain ⟨hs1, hs2, _⟩ := hs
    have hff := hf (fun i => some (i * es, es)) (fun i o s ho => by obtain ⟨rfl, rfl⟩ := ho; rfl)
    simp only [Instr.build, Sem.run_bind, hz1, Result.andThen_ok, run_underlying hs1, run_sizeOf_map hs2, hza, hpl]
    rw [hff]
    rfl
  | str fs =>
    rw [hsh] at hs hf
    obtain ⟨fields, hs1, hs2⟩ := hs
    have hlen : fields.toList.length = fs.length := by have := congrArg List.length hs2; simpa using this
    have hm : (fields.mapM fun f => do pure (f.offset, ← sizeOf f.type) : Sem (Array (Nat × Nat))).run P w = .ok (fs.map (fun x => (x.1, x.2.1))).toArray w := by
      rw [Array.mapM_eq_mapM_toList]
      have h0 := run_mapM_list (P := P) (w := w) (f := fun f : Field => (do pure (f.offset, ← sizeOf f.type) : Sem (Nat × Nat)))
        (g := fun f => (f.offset, ((P.info? f.type).map (·.size)).getD 0)) fields.toList (fun f hf => by
          obtain ⟨j, hj⟩ := List.getElem?_of_mem hf
          have := congrArg (fun l => l[j]?) hs2
          simp only [List.getElem?_map, hj, Option.map_some] at this
          cases hfs : fs[j]? with
          | none => rw [hfs] at this; cases this
          | some y =>
            rw [hfs] at this
            simp only [Option.map_some, Option.some.injEq, Prod.mk.injEq] at this
            simp only [Sem.run_bind, run_sizeOf_map this.2.1, Result.andThen_ok, Sem.run_pure, this.2.1, Option.getD_some])
      rw [Sem.run_map, h0, Result.andThen_ok]
      congr 2
      have h2 := congrArg (List.map (fun x : Nat × Option Nat × Option Bool => (x.1, x.2.1.getD 0))) hs2
      simpa [List.map_map, Function.comp_def] using h2
    have hff := hf ((fs.map (fun x => (x.1, x.2.1))).toArray[·]?) (fun i o s ho => by obtain ⟨b, hb⟩ := ho; simp [hb])
    simp only [Instr.build, Sem.run_bind, hz1, Result.andThen_ok, run_underlying hs1, hm, hza, hpl]
    rw [hff]
    rfl
  | _ => rw [hsh] at hag; cases hag

theorem builtinK_sound {P : Program} {T : Tbl} (hT : T.Ok P) {b : Builtin} {ts : List Nat} {vs : List Value} {k : Value → Prop} (h : builtinK T b ts vs k) :
    ∃ v, k v ∧ plain v = true ∧ ∀ (ρ : List Nat) (ty : TypeId) (consts : Array Bool) (w : World),
      (builtin b ts.toArray ty consts (vs.map (conc ρ)).toArray).run P w = .ok (.value v) w := by
  unfold builtinK at h
  split at h
  · rename_i t ad n c
    obtain ⟨i, hi, rfl, h'⟩ := lookT_spec h
    have hs := (hT i hi).sh
    cases hsh : i.sh <;> rw [hsh] at h' hs <;> try exact h'.elim
    refine ⟨_, h', rfl, fun ρ ty consts w => ?_⟩
    cases ad <;> simp [builtin, Builtin.len_, conc, conc1, conc0, run_underlying hs.1, goInt]
  · rename_i t ad n c
    obtain ⟨i, hi, rfl, h'⟩ := lookT_spec h
    have hs := (hT i hi).sh
    cases hsh : i.sh <;> rw [hsh] at h' hs <;> try exact h'.elim
    refine ⟨_, h', rfl, fun ρ ty consts w => ?_⟩
    cases ad <;> simp [builtin, Builtin.cap_, conc, conc1, conc0, run_underlying hs.1, goInt]
  · rename_i t s
    obtain ⟨i, hi, rfl, h'⟩ := lookT_spec h
    have hs := (hT i hi).sh
    cases hsh : i.sh <;> rw [hsh] at h' hs <;> try exact h'.elim
    refine ⟨_, h', rfl, fun ρ ty consts w => ?_⟩
    simp [builtin, Builtin.len_, conc, conc1, conc0, run_underlying hs, goInt]
  · exact ⟨_, h, rfl, fun ρ ty consts w => by simp [builtin, Builtin.max_, Builtin.max2, conc, conc1, conc0, maxi]⟩
  · exact ⟨_, h, rfl, fun ρ ty consts w => by simp [builtin, Builtin.max_, Builtin.max2, conc, conc1, conc0, maxi]⟩
  · exact ⟨_, h, rfl, fun ρ ty consts w => by simp [builtin, Builtin.min_, Builtin.min2, conc, conc1, conc0, mini] <;> rfl⟩
  · exact ⟨_, h, rfl, fun ρ ty consts w => by simp [builtin, Builtin.min_, Builtin.min2, conc, conc1, conc0, mini] <;> rfl⟩
  · exact ⟨_, h, rfl, fun ρ ty consts w => by simp [builtin, Builtin.min_, Builtin.min2, conc, conc1, conc0, mini] <;> rfl⟩
  · exact h.elim

theorem run_part {P : Program} {e es : Nat} {ag : Bool} (h1 : (P.info? e).map (·.size) = some es) (h2 : (P.underlying e).map aggD = some ag)
    {cs : List Value} {off : Nat} {v : Value} {ρ : List Nat}
    (hv : (ag = true ∧ ∃ l, List.take es (List.drop off cs) = l ∧ l.length = es ∧ allL (fun v => !isWild v) l = true ∧ v = .agg l.toArray) ∨ (ag = false ∧ cs[off]? = some v ∧ isWild v = false)) (hok : ∀ c ∈ cs, ok0 ρ.length c) (w : World) :
    (part e (cs.map (conc0 ρ)).toArray off).run P w = .ok (conc ρ v) w ∧ ok2 ρ.length v := by
  rcases hv with ⟨rfl, l, hl, hn, _, rfl⟩ | ⟨rfl, hv, _⟩
  · refine ⟨?_, fun c hc => hok c (List.mem_of_mem_drop (List.mem_of_mem_take (hl ▸ hc)))⟩
    simp only [part, Sem.run_bind, run_isAgg_map h2, Result.andThen_ok, if_true, run_sizeOf_map h1, Sem.run_pure]
    congr 2
    subst hl
    simp [conc, conc1, List.map_take, List.map_drop, List.extract_toArray, List.extract_eq_take_drop]
  · have hc := hok v (List.mem_of_getElem? hv)
    have hv1 : conc ρ v = conc0 ρ v ∧ ok2 ρ.length v := by
      cases v <;> first | exact ⟨rfl, hc⟩ | exact hc.elim
    refine ⟨?_, hv1.2⟩
    simp only [part, Sem.run_bind, run_isAgg_map h2, Result.andThen_ok, Bool.false_eq_true, if_false]
    simp [hv, hv1.1]

theorem ok0_conc {ρ : List Nat} {v : Value} (h : ok0 ρ.length v) : conc ρ v = conc0 ρ v ∧ ok2 ρ.length v := by
  cases v <;> first | exact ⟨rfl, h⟩ | exact h.elim

theorem run_value {P : Program} {s : Sem Value} {w w' : World} {v : Value} (h : s.run P w = .ok v w') : (do pure (.value (← s)) : Sem Next).run P w = .ok (.value v) w' := by
  simp only [Sem.run_bind, h, Result.andThen_ok, Sem.run_pure]

theorem optK_sound {tm : List Value} {x : Option Operand} {k : Option Value → Prop} (h : optK tm x k) :
    ∃ v, k v ∧ ∀ ρ a, TmAt ρ tm a → x.map a.eval = v.map (conc ρ) := by
  cases x with
  | none => exact ⟨none, h, fun _ _ _ => rfl⟩
  | some x =>
    obtain ⟨v, h1, h2⟩ := opK_sound h
    exact ⟨some v, h1, fun ρ a ha => by simp [(h2 ρ a ha).1]⟩

theorem hiK_spec {cap len : Nat} {hi : Option Value} {k : Nat → Prop} (h : hiK cap len hi k) :
    ∃ n, k n ∧ ((hi = none ∧ n = len) ∨ ∃ kd i, hi = some (.int kd i) ∧ 0 ≤ i ∧ i ≤ (cap : Int) ∧ n = i.toNat) := by
  unfold hiK at h
  split at h
  · exact ⟨_, h, .inl ⟨rfl, rfl⟩⟩
  · rename_i kd i
    rcases br_cases h with ⟨hb, h⟩ | ⟨_, h⟩
    · have := of_decide_eq_true hb
      exact ⟨_, h, .inr ⟨kd, i, rfl, this.1, this.2, rfl⟩⟩
    · exact h.elim
  · exact h.elim
theorem loK_spec {hh : Nat} {lo : Option Value} {k : Nat → Prop} (h : loK hh lo k) :
    ∃ n, k n ∧ ((lo = none ∧ n = 0) ∨ ∃ kd i, lo = some (.int kd i) ∧ 0 ≤ i ∧ i ≤ (hh : Int) ∧ n = i.toNat) := by
  unfold loK at h
  split at h
  · exact ⟨_, h, .inl ⟨rfl, rfl⟩⟩
  · rename_i kd i
    rcases br_cases h with ⟨hb, h⟩ | ⟨_, h⟩
    · have := of_decide_eq_true hb
      exact ⟨_, h, .inr ⟨kd, i, rfl, this.1, this.2, rfl⟩⟩
    · exact h.elim
  · exact h.elim

theorem run_bounds {P : Program} {ρ : List Nat} {isS : Bool} {len cap h l : Nat} {hi lo : Option Value}
    (h1 : (hi = none ∧ h = len) ∨ ∃ kd i, hi = some (.int kd i) ∧ 0 ≤ i ∧ i ≤ (cap : Int) ∧ h = i.toNat)
    (h2 : (lo = none ∧ l = 0) ∨ ∃ kd i, lo = some (.int kd i) ∧ 0 ≤ i ∧ i ≤ (h : Int) ∧ l = i.toNat) (w : World) :
    (Instr.sliceBounds isS len cap (lo.map (conc ρ)) (hi.map (conc ρ)) none).run P w = .ok (l, h, cap) w := by
  have bound : ∀ (kd : IntKind) (i : Int) (y : Nat) (c : BoundsCode), 0 ≤ i → i ≤ (y : Int) → (Instr.sliceBound (.int kd i) y c).run P w = .ok i.toNat w := fun kd i y c g1 g2 => by
    simp [Instr.sliceBound, asIntOf, g1, g2]
  have ci : ∀ kd i, conc ρ (.int kd i) = .int kd i := fun _ _ => rfl
  unfold Instr.sliceBounds
  rcases h1 with ⟨rfl, rfl⟩ | ⟨kd, i, rfl, g1, g2, rfl⟩
  · rcases h2 with ⟨rfl, rfl⟩ | ⟨kd', i', rfl, g3, g4, rfl⟩
    · simp
    · simp [ci, bound _ _ _ _ g3 g4]
  · rcases h2 with ⟨rfl, rfl⟩ | ⟨kd', i', rfl, g3, g4, rfl⟩
    · simp [ci, bound _ _ _ _ g1 g2]
    · simp [ci, bound _ _ _ _ g1 g2, bound _ _ _ _ g3 g4]

theorem offK_eq (m l off size : Nat) (b : Nat) : (if m = l then (⟨b, off, none⟩ : Addr) else (⟨b, off, none⟩ : Addr).add (l * size)) = ⟨b, offK m l off size, none⟩ := by
  cases l with
  | zero =>
    simp only [offK, Nat.zero_mul]
    split
    · rfl
    · rw [Addr.add_lit]; rfl
  | succ l =>
  simp only [offK]
  generalize l + 1 = l
  by_cases h : m = l
  · subst h; simp [Nat.beq_refl]
  · rw [if_neg h, Addr.add_lit]
    have : Nat.beq m l = false := by
      cases hb : Nat.beq m l
      · rfl
      · exact absurd (Nat.eq_of_beq_eq_true hb) h
    rw [this]

theorem evR_sound {P : Program} {T : Tbl} (hT : T.Ok P) (o : Oper) {tm : List Value} {mem : Mem} {k : Value → Prop} (h : evR T o.op tm mem k) :
    ∃ v, k v ∧ ReadOK P o tm mem v := by
  cases hop : o.op with
  | move x =>
    rw [hop] at h
    obtain ⟨v, hk, hv⟩ := opK_sound h
    exact ⟨v, hk, fun w0 ρ w a ha _ => ⟨by simp [execOp, hop, (hv ρ a ha).1], (hv ρ a ha).2⟩⟩
  | assign x =>
    rw [hop] at h
    obtain ⟨v, hk, hv⟩ := opK_sound h
    exact ⟨v, hk, fun w0 ρ w a ha _ => ⟨by simp [execOp, hop, (hv ρ a ha).1], (hv ρ a ha).2⟩⟩
  | pick c x y =>
    rw [hop] at h
    simp only [evR] at h
    obtain ⟨cv, h, hc⟩ := opK_sound h
    split at h
    · rename_i b
      rcases br_cases h with ⟨rfl, h⟩ | ⟨rfl, h⟩
      · obtain ⟨v, hk, hv⟩ := opK_sound h
        refine ⟨v, hk, fun w0 ρ w a ha _ => ⟨?_, (hv ρ a ha).2⟩⟩
        have e : a.eval c = .bool true := (hc ρ a ha).1
        simp [execOp, hop, (hv ρ a ha).1, e, asBool]
      · obtain ⟨v, hk, hv⟩ := opK_sound h
        refine ⟨v, hk, fun w0 ρ w a ha _ => ⟨?_, (hv ρ a ha).2⟩⟩
        have e : a.eval c = .bool false := (hc ρ a ha).1
        simp [execOp, hop, (hv ρ a ha).1, e, asBool]
    · exact h.elim
  | load t x =>
    rw [hop] at h
    simp only [evR] at h
    obtain ⟨ti, hti, rfl, h'⟩ := lookT_spec h
    clear h
    obtain ⟨av, h, hav⟩ := opK_sound h'
    clear h'
    split at h
    · rename_i b off
      obtain ⟨blk, hb, h⟩ := memK_spec h
      obtain ⟨v, hk, hv⟩ := partK_sound h
      have hTi := hT ti hti
      refine ⟨v, hk, fun w0 ρ w a ha hm => ?_⟩
      have e : a.eval x = .pointer (some ⟨ρ.getD b 0, off, none⟩) := (hav ρ a ha).1
      rcases hv with ⟨hag, l, hl, hn, hnw, rfl⟩ | ⟨hag, hv, hnw⟩
      · obtain ⟨h1, h2⟩ := hm.loadCells (P := P) hb hl hn hnw
        refine ⟨?_, h2⟩
        simp only [execOp, hop]
        refine run_value ?_
        simp only [Instr.loadAt, Instr.sureAddr, e, Sem.run_bind, Sem.run_pure, Result.andThen_ok, loadVar, hTi.run_agg, hag, if_true, hTi.run_size, h1]
        rfl
      · obtain ⟨h1, h2⟩ := hm.cell hb hv hnw
        refine ⟨?_, (ok0_conc h2).2⟩
        simp only [execOp, hop]
        refine run_value ?_
        simp only [Instr.loadAt, Instr.sureAddr, e, Sem.run_bind, Sem.run_pure, Result.andThen_ok, loadVar, hTi.run_agg, hag, Bool.false_eq_true, if_false, run_load, h1, (ok0_conc h2).1]
    · exact h.elim
  | binOp op t x y yt =>
    rw [hop] at h
    simp only [evR] at h
    obtain ⟨xv, h, hx⟩ := opK_sound h
    obtain ⟨yv, h, hy⟩ := opK_sound h
    obtain ⟨v, hk, hp, hv⟩ := binK_sound hT h
    refine ⟨v, hk, fun w0 ρ w a ha _ => ⟨?_, (plain_ok hp _ ρ).1⟩⟩
    have ex : a.eval x = conc ρ xv := (hx ρ a ha).1
    have ey : a.eval y = conc ρ yv := (hy ρ a ha).1
    simp only [execOp, hop]
    refine run_value ?_
    rw [ex, ey, (plain_ok hp 0 ρ).2]
    exact hv ρ w x y
  | unOp op t x =>
    rw [hop] at h
    simp only [evR] at h
    obtain ⟨xv, h, hx⟩ := opK_sound h
    obtain ⟨v, hk, hp, hc, hv⟩ := unK_sound (P := P) h
    refine ⟨v, hk, fun w0 ρ w a ha _ => ⟨?_, (plain_ok hp _ ρ).1⟩⟩
    have ex : a.eval x = xv := (hx ρ a ha).1.trans (hc ρ)
    simp only [execOp, hop]
    refine run_value ?_
    rw [ex, (plain_ok hp 0 ρ).2]
    exact hv w
  | extract x i =>
    rw [hop] at h
    simp only [evR] at h
    obtain ⟨xv, h, hx⟩ := opK_sound h
    split at h
    · rename_i vs
      obtain ⟨v, hv, hk⟩ := tupK_spec h
      refine ⟨v, hk, fun w0 ρ w a ha _ => ?_⟩
      obtain ⟨ex, eok⟩ := hx ρ a ha
      have hok1 : ok1 ρ.length v := eok v (List.mem_of_getElem? hv)
      have hc1 : conc ρ v = conc1 ρ v ∧ ok2 ρ.length v := by
        cases v <;> first | exact ⟨rfl, hok1⟩ | exact hok1.elim
      refine ⟨?_, hc1.2⟩
      simp only [execOp, hop]
      refine run_value ?_
      have e2 : (vs.toList.map (conc1 ρ)).toArray[i]? = some (conc1 ρ v) := by simp; exact ⟨v, by simpa using hv, rfl⟩
      rw [ex, hc1.1]
      simp only [conc, Instr.extract, e2, Sem.run_pure]
    · exact h.elim
  | indexAddr t x ix =>
    rw [hop] at h
    simp only [evR] at h
    obtain ⟨ti, hti, rfl, h'⟩ := lookT_spec h
    clear h
    obtain ⟨xv, h, hx⟩ := opK_sound h'
    clear h'
    obtain ⟨iv, h2, hi⟩ := opK_sound h
    clear h
    have h := h2
    clear h2
    have hTi := (hT ti hti).sh
    split at h
    · rename_i n e es ag b off ik i hsh
      rw [hsh] at hTi
      obtain ⟨h1, h2, _⟩ := hTi
      rcases br_cases h with ⟨hb, h⟩ | ⟨_, h⟩
      · have hb' := of_decide_eq_true hb
        refine ⟨_, h, fun w0 ρ w a ha _ => ?_⟩
        obtain ⟨ex, eok⟩ := hx ρ a ha
        have ei : a.eval ix = .int ik i := (hi ρ a ha).1
        have ex' : a.eval x = .pointer (some ⟨ρ.getD b 0, off, none⟩) := ex
        refine ⟨?_, eok⟩
        simp only [execOp, hop]
        refine run_value ?_
        have hal : P.arrayLen ti.t = n := by simp [Program.arrayLen, h1]
        have hel : P.elem ti.t = e := by simp [Program.elem, h1]
        rw [ex', ei, run_indexAt_array _ _ _ _ _ (by rw [hal, hel]; exact h1), hal, hel, if_pos hb', run_sizeOf_map h2, Result.andThen_ok, Addr.add_lit]
        rfl
      · exact h.elim
    · rename_i e es b off n c ik i hsh
      rw [hsh] at hTi
      obtain ⟨h1, h2⟩ := hTi
      rcases br_cases h with ⟨hb, h⟩ | ⟨_, h⟩
      · have hb' := of_decide_eq_true hb
        refine ⟨_, h, fun w0 ρ w a ha _ => ?_⟩
        obtain ⟨ex, eok⟩ := hx ρ a ha
        have ei : a.eval ix = .int ik i := (hi ρ a ha).1
        have ex' : a.eval x = .slice (some ⟨ρ.getD b 0, off, none⟩) n c := ex
        refine ⟨?_, eok⟩
        simp only [execOp, hop]
        refine run_value ?_
        have hel : P.elem ti.t = e := by simp [Program.elem, h1]
        rw [ex', ei, run_indexAt_slice _ _ _ _ _ _ _ (by rw [hel]; exact h1), hel, if_pos hb', run_sizeOf_map h2, Result.andThen_ok, Addr.add_lit]
        rfl
      · exact h.elim
    · exact h.elim
  | index t x ix =>
    rw [hop] at h
    simp only [evR] at h
    obtain ⟨ti, hti, rfl, h'⟩ := lookT_spec h
    clear h
    obtain ⟨xv, h, hx⟩ := opK_sound h'
    clear h'
    obtain ⟨iv, h2, hi⟩ := opK_sound h
    clear h
    have h := h2
    clear h2
    have hTi := (hT ti hti).sh
    split at h
    · rename_i n e es ag cs ik i hsh
      rw [hsh] at hTi
      obtain ⟨h1, h2, h3⟩ := hTi
      rcases br_cases h with ⟨hb, h⟩ | ⟨_, h⟩
      · have hb' := of_decide_eq_true hb
        obtain ⟨v, hk, hv⟩ := partK_sound h
        refine ⟨v, hk, fun w0 ρ w a ha _ => ?_⟩
        obtain ⟨ex, eok⟩ := hx ρ a ha
        have ei : a.eval ix = .int ik i := (hi ρ a ha).1
        have ex' : a.eval x = .agg (cs.toList.map (conc0 ρ)).toArray := ex
        obtain ⟨hr, hr2⟩ := run_part h2 h3 hv eok w
        refine ⟨?_, hr2⟩
        simp only [execOp, hop]
        refine run_value ?_
        rw [ex', ei]
        simp only [Instr.index, asIntOf, Sem.run_bind, Sem.run_pure, Result.andThen_ok, run_underlying h1, if_pos hb', run_sizeOf_map h2, hr]
      · exact h.elim
    · rename_i s ik i hsh
      rw [hsh] at hTi
      rcases br_cases h with ⟨hb, h⟩ | ⟨_, h⟩
      · have hb' := of_decide_eq_true hb
        refine ⟨_, h, fun w0 ρ w a ha _ => ?_⟩
        have ex : a.eval x = .string s := (hx ρ a ha).1
        have ei : a.eval ix = .int ik i := (hi ρ a ha).1
        refine ⟨?_, trivial⟩
        simp only [execOp, hop]
        refine run_value ?_
        rw [ex, ei]
        have hlt : i.toNat < s.size := by omega
        have hg : s[i.toNat]? = some s[i.toNat] := by simp [getElem?_pos, hlt]
        simp only [Instr.index, asIntOf, Sem.run_bind, Sem.run_pure, Result.andThen_ok, run_underlying hTi, if_pos hb'.1, hg]
        have : s.data.toList.getD i.toNat 0 = s[i.toNat] := by
          have hlt' : i.toNat < s.data.toList.length := by simpa using hlt
          rw [List.getD, List.getElem?_eq_getElem hlt', Option.getD_some]
          rfl
        rw [this]
        rfl
      · exact h.elim
    · exact h.elim
  | fieldAddr t x f =>
    rw [hop] at h
    simp only [evR] at h
    obtain ⟨ti, hti, rfl, h'⟩ := lookT_spec h
    clear h
    obtain ⟨xv, h, hx⟩ := opK_sound h'
    clear h'
    have hTi := (hT ti hti).sh
    split at h
    · rename_i fs b off hsh
      rw [hsh] at hTi
      obtain ⟨fields, h1, h2⟩ := hTi
      obtain ⟨fd, hfd, h⟩ := fldK_spec h
      split at h
      · exact h.elim
      · rename_i hz
        have hz' : fd.2.1 ≠ 0 := fun h0 => by rw [h0] at hz; cases hz
        refine ⟨_, h, fun w0 ρ w a ha _ => ?_⟩
        obtain ⟨ex, eok⟩ := hx ρ a ha
        have ex' : a.eval x = .pointer (some ⟨ρ.getD b 0, off, none⟩) := ex
        refine ⟨?_, eok⟩
        simp only [execOp, hop]
        refine run_value ?_
        have hj := congrArg (fun l => l[f]?) h2
        simp only [List.getElem?_map, hfd, Option.map_some] at hj
        cases hfl : fields.toList[f]? with
        | none => rw [hfl] at hj; cases hj
        | some y =>
          rw [hfl] at hj
          simp only [Option.map_some, Option.some.injEq, Prod.mk.injEq] at hj
          have hfa : fields[f]? = some y := by simpa using hfl
          rw [ex']
          simp only [Instr.fieldAt, Sem.run_bind, run_underlying h1, Result.andThen_ok, hfa, Instr.sureAddr, Sem.run_pure, fieldPlace, run_sizeOf_map hj.2.1, if_neg hz', Addr.add_lit, hj.1]
          rfl
    · exact h.elim
  | field t x f =>
    rw [hop] at h
    simp only [evR] at h
    obtain ⟨ti, hti, rfl, h'⟩ := lookT_spec h
    clear h
    obtain ⟨xv, h, hx⟩ := opK_sound h'
    clear h'
    have hTi := (hT ti hti).sh
    split at h
    · rename_i fs cs hsh
      rw [hsh] at hTi
      obtain ⟨fields, h1, h2⟩ := hTi
      obtain ⟨fd, hfd, h⟩ := fldK_spec h
      obtain ⟨v, hk, hv⟩ := partK_sound h
      refine ⟨v, hk, fun w0 ρ w a ha _ => ?_⟩
      obtain ⟨ex, eok⟩ := hx ρ a ha
      have ex' : a.eval x = .agg (cs.toList.map (conc0 ρ)).toArray := ex
      have hj := congrArg (fun l => l[f]?) h2
      simp only [List.getElem?_map, hfd, Option.map_some] at hj
      cases hfl : fields.toList[f]? with
      | none => rw [hfl] at hj; cases hj
      | some y =>
        rw [hfl] at hj
        simp only [Option.map_some, Option.some.injEq, Prod.mk.injEq] at hj
        have hfa : fields[f]? = some y := by simpa using hfl
        obtain ⟨hr, hr2⟩ := run_part hj.2.1 hj.2.2 hv eok w
        refine ⟨?_, hr2⟩
        simp only [execOp, hop]
        refine run_value ?_
        rw [ex']
        simp only [Instr.field, Sem.run_bind, run_underlying h1, Result.andThen_ok, hfa, asAgg, Sem.run_pure, hj.1, hr]
    · exact h.elim
  | build t parts =>
    rw [hop] at h
    simp only [evR] at h
    obtain ⟨ti, hti, rfl, h'⟩ := lookT_spec h
    clear h
    split at h'
    · rename_i hag
      obtain ⟨cs, hk, hf⟩ := fillK_sound h'
      have hTi := hT ti hti
      refine ⟨_, hk, fun w0 ρ w a ha _ => ?_⟩
      have hz := zero_ok hTi ρ.length
      refine ⟨?_, (hf ρ a (fun i => match ti.sh with | .arr _ _ es _ => some (i * es, es) | .slice _ es => some (i * es, es) | .str fs => (fs[i]?).map (fun x => (x.1, x.2.1)) | _ => none) ha (fun i o s ho => by
        cases hsh : ti.sh <;> rw [hsh] at ho <;> simp only [PlaceAt] at ho
        · obtain ⟨rfl, rfl⟩ := ho; rfl
        · obtain ⟨b, hb⟩ := ho; simp [hb]
        · obtain ⟨rfl, rfl⟩ := ho; rfl) hz).2⟩
      simp only [execOp, hop]
      refine run_value ?_
      exact build_sound hTi hag (fun place hpl => (hf ρ a place ha hpl hz).1) w
    · exact h'.elim
  | nilCheck x =>
    rw [hop] at h
    simp only [evR] at h
    obtain ⟨xv, h, hx⟩ := opK_sound h
    split at h
    · rename_i ad
      refine ⟨_, h, fun w0 ρ w a ha _ => ?_⟩
      obtain ⟨ex, eok⟩ := hx ρ a ha
      refine ⟨?_, eok⟩
      simp only [execOp, hop]
      rw [ex]
      rfl
    · exact h.elim
  | convert s d x =>
    rw [hop] at h
    simp only [evR] at h
    obtain ⟨si, hsi, rfl, h'⟩ := lookT_spec h
    clear h
    obtain ⟨di, hdi, rfl, h⟩ := lookT_spec h'
    clear h'
    obtain ⟨xv, h', hx⟩ := opK_sound h
    clear h
    have hS : ∃ d, P.underlying si.t = some d := by
      have := (hT si hsi).sh
      cases hsh : si.sh <;> rw [hsh] at this <;> simp only [ShOk] at this
      · cases hu : P.underlying si.t with
        | none => rw [hu] at this; cases this
        | some d => exact ⟨d, rfl⟩
      · exact ⟨_, this⟩
      · exact ⟨_, this⟩
      · exact ⟨_, this⟩
      · exact ⟨_, this.1⟩
      · obtain ⟨f, this, _⟩ := this; exact ⟨_, this⟩
      · exact ⟨_, this.1⟩
    obtain ⟨sd, hS⟩ := hS
    have hD := (hT di hdi).sh
    split at h'
    · rename_i b off len cap hsh
      rw [hsh] at hD
      split at h'
      · rename_i e es hss hlen
        have hS2 := (hT si hsi).sh
        rw [hss] at hS2
        obtain ⟨ei, hei, rfl, h⟩ := lookT_spec h'
        clear h'
        split at h
        · rename_i hes
          have hE := (hT ei hei).sh
          rw [hes] at hE
          obtain ⟨blk, hb, h'⟩ := memK_spec h
          clear h
          obtain ⟨v, h, hv⟩ := partK_sound h'
          clear h'
          rcases hv with ⟨hag, _⟩ | ⟨_, hv, hnw⟩
          · cases hag
          split at h
          · rename_i n
            refine ⟨_, h, fun w0 ρ w a ha hm => ⟨?_, trivial⟩⟩
            have ex : a.eval x = .slice (some ⟨ρ.getD b 0, off, none⟩) len cap := (hx ρ a ha).1
            obtain ⟨h1, _⟩ := hm.cell hb hv hnw
            have hl1 : len = 1 := Nat.eq_of_beq_eq_true hlen
            subst hl1
            simp only [execOp, hop]
            refine run_value ?_
            rw [ex, run_convert_bytes_string w si.t di.t ei.t _ 1 cap hS2.1 hE hD]
            have hl : (Go.loadCells ⟨ρ.getD b 0, off, none⟩ 1).run P w = .ok (([n]).map (Value.int .u8)).toArray w := by
              have := run_loadCells_list (P := P) w ⟨ρ.getD b 0, off, none⟩ [.int .u8 n] (fun j v hj => by
                cases j with
                | zero => simp at hj; subst hj; rw [Addr.add_lit]; exact h1
                | succ j => simp at hj)
              exact this
            rw [run_bytesToString w _ 1 cap [n] hl]
            rfl
          · exact h.elim
        · exact h.elim
      · exact h'.elim
    · rename_i k n hsh
      rw [hsh] at hD
      refine ⟨_, h', fun w0 ρ w a ha _ => ⟨?_, trivial⟩⟩
      have ex : a.eval x = .int k n := (hx ρ a ha).1
      simp only [execOp, hop]
      refine run_value ?_
      rw [ex]
      simp only [convert, Sem.run_bind, run_underlying hS, run_underlying hD, Result.andThen_ok, Conv.intToInt, Sem.run_pure, wrap_i64']
      rfl
    · rename_i k n hsh
      rw [hsh] at hD
      refine ⟨_, h', fun w0 ρ w a ha _ => ⟨?_, trivial⟩⟩
      have ex : a.eval x = .int k n := (hx ρ a ha).1
      simp only [execOp, hop]
      refine run_value ?_
      rw [ex]
      simp only [convert, Sem.run_bind, run_underlying hS, run_underlying hD, Result.andThen_ok, Conv.intToInt, Sem.run_pure]
      rfl
    · rename_i k n hsh
      rw [hsh] at hD
      refine ⟨_, h', fun w0 ρ w a ha _ => ⟨?_, trivial⟩⟩
      have ex : a.eval x = .int k n := (hx ρ a ha).1
      simp only [execOp, hop]
      refine run_value ?_
      rw [ex]
      simp only [convert, Sem.run_bind, run_underlying hS, run_underlying hD, Result.andThen_ok, Conv.intToInt, Sem.run_pure]
      rfl
    · exact h'.elim
  | call c =>
    rw [hop] at h
    obtain ⟨callee, args, ts⟩ := c
    cases callee with
    | builtin b =>
      simp only [evR] at h
      obtain ⟨vs, h, hvs⟩ := argsK_sound h
      obtain ⟨v, hk, hp, hv⟩ := builtinK_sound hT h
      refine ⟨v, hk, fun w0 ρ w a ha _ => ⟨?_, (plain_ok hp _ ρ).1⟩⟩
      have ea : args.map a.eval = (vs.map (conc ρ)).toArray := by
        apply Array.ext'
        simpa using (hvs ρ a ha).1
      simp only [execOp, hop, resolve, Sem.run_bind, Sem.run_pure, Result.andThen_ok, invoke, ea, (plain_ok hp 0 ρ).2]
      exact hv ρ o.type _ w
    | value f => exact h.elim
    | invoke r m => exact h.elim
  | slice t x lo hi mx =>
    rw [hop] at h
    cases mx with
    | some m => exact h.elim
    | none =>
    simp only [evR] at h
    obtain ⟨ti, hti, rfl, h'⟩ := lookT_spec h
    clear h
    obtain ⟨xv, h, hx⟩ := opK_sound h'
    clear h'
    obtain ⟨lv, h', hl⟩ := optK_sound h
    clear h
    obtain ⟨hv, h, hh⟩ := optK_sound h'
    clear h'
    have hTi := (hT ti hti).sh
    unfold sliceK at h
    split at h
    · rename_i n e es ag b off hsh
      rw [hsh] at hTi
      obtain ⟨h1, h, hb1⟩ := hiK_spec h
      obtain ⟨l1, h, hb2⟩ := loK_spec h
      rw [subK_eq, subK_eq] at h
      refine ⟨_, h, fun w0 ρ w a ha _ => ⟨?_, (hx ρ a ha).2⟩⟩
      have ex : a.eval x = .pointer (some ⟨ρ.getD b 0, off, none⟩) := (hx ρ a ha).1
      simp only [execOp, hop]
      refine run_value ?_
      simp only [Instr.sliceAt, Sem.run_bind, run_underlying hTi.1, Result.andThen_ok, ex, Instr.sureAddr, Sem.run_pure, hl ρ a ha, hh ρ a ha, Option.map_none, run_bounds hb1 hb2, run_sizeOf_map hTi.2.1, offK_eq]
      rfl
    · rename_i e es b off len cap hsh
      rw [hsh] at hTi
      obtain ⟨h1, h, hb1⟩ := hiK_spec h
      obtain ⟨l1, h, hb2⟩ := loK_spec h
      rw [subK_eq, subK_eq] at h
      refine ⟨_, h, fun w0 ρ w a ha _ => ⟨?_, (hx ρ a ha).2⟩⟩
      have ex : a.eval x = .slice (some ⟨ρ.getD b 0, off, none⟩) len cap := (hx ρ a ha).1
      simp only [execOp, hop]
      refine run_value ?_
      simp only [Instr.sliceAt, Instr.slice, Sem.run_bind, run_underlying hTi.1, Result.andThen_ok, ex, Sem.run_pure, hl ρ a ha, hh ρ a ha, Option.map_none, run_bounds hb1 hb2, run_sizeOf_map hTi.2]
      have := offK_eq cap l1 off es (ρ.getD b 0)
      by_cases hc : cap = l1
      · rw [if_pos hc] at this ⊢
        rw [this]; rfl
      · rw [if_neg hc] at this ⊢
        simp only [Option.map_some, this]; rfl
    · rename_i e es len cap hsh
      rw [hsh] at hTi
      obtain ⟨h1, h, hb1⟩ := hiK_spec h
      obtain ⟨l1, h, hb2⟩ := loK_spec h
      refine ⟨_, h, fun w0 ρ w a ha _ => ⟨?_, trivial⟩⟩
      have ex : a.eval x = .slice none len cap := (hx ρ a ha).1
      simp only [execOp, hop]
      refine run_value ?_
      simp only [Instr.sliceAt, Instr.slice, Sem.run_bind, run_underlying hTi.1, Result.andThen_ok, ex, Sem.run_pure, hl ρ a ha, hh ρ a ha, Option.map_none, run_bounds hb1 hb2, run_sizeOf_map hTi.2, ite_self]
      rfl
    · rename_i s hsh
      rw [hsh] at hTi
      obtain ⟨h1, h, hb1⟩ := hiK_spec h
      obtain ⟨l1, h, hb2⟩ := loK_spec h
      refine ⟨_, h, fun w0 ρ w a ha _ => ⟨?_, trivial⟩⟩
      have ex : a.eval x = .string s := (hx ρ a ha).1
      simp only [execOp, hop]
      refine run_value ?_
      simp only [Instr.sliceAt, Instr.slice, Sem.run_bind, run_underlying hTi, Result.andThen_ok, ex, Sem.run_pure, hl ρ a ha, hh ρ a ha, Option.map_none, Option.isSome_none, Bool.false_eq_true, if_false, run_bounds hb1 hb2]
      rfl
    · exact h.elim
  | makeFunc f first captured =>
    rw [hop] at h
    cases f with
    | func n =>
      simp only [evR] at h
      split at h
      · rename_i hf
        obtain ⟨vs, h, hvs⟩ := argsK_sound h
        split at h
        · rename_i hp
          have hp := allL_spec hp
          refine ⟨_, h, fun w0 ρ w a ha _ => ⟨?_, ?_⟩⟩
          · simp only [execOp, hop]
            refine run_value ?_
            have hf' : first = #[] := by simpa using hf
            subst hf'
            have ea : captured.map a.eval = (vs.map (concb ρ)).toArray := by
              apply Array.ext'
              have := (hvs ρ a ha).1
              simp only [Array.toList_map, this]
              exact List.map_congr_left fun v hv => (isPtr_conc (hp v hv)).1
            rw [ea]
            have em : (#[] : Array Operand).map a.eval = #[] := by simp
            rw [em]
            rfl
          · intro v hv
            have hv' : v ∈ vs := by simpa using hv
            exact (isPtr_conc (hp v hv')).2.1 ((hvs ρ a ha).2 v hv')
        · exact h.elim
      · exact h.elim
    | _ => exact h.elim
  | _ => rw [hop] at h; exact h.elim

end Go.Ev
