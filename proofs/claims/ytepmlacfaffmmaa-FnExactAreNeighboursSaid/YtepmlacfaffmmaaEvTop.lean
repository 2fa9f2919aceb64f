/-
  The evaluator, part 7: drawn regions at the evaluator's own level; code; functions and their contracts.
  Conditions: none.
-/
import Derived.Test.YtepmlacfaffmmaaEvCode
set_option linter.unusedVariables false
set_option linter.unusedSimpArgs false
namespace Go.Ev
open Go.RowKit

/-! ## The head of a drawn region -/

def isAl (o : Oper) : Bool := match o.op, o.guard with
  | .alloc _, none => true
  | _, _ => false

def alAt (ops : Array Oper) (i : Nat) : Bool := match ops[i]? with
  | some o => isAl o
  | none => false

/-- 'HeadOk', reckoned. -/
def headChk (ops : Array Oper) (n : Nat) : Bool :=
  Region.noSelect ops && decide (n ≤ ops.size) && (decide (n = ops.size) || (Region.sinkB .any ops n && Region.chainB .any ops n)) &&
  ((List.range n).all fun i => (List.range n).all fun j =>
    (match dstAt ops i with
     | some d => (decide (i = j) || dstAt ops j != some d) && (!(looksN ops j).contains d || (decide (i < j) && Region.waitsFor .any ops j i && !alAt ops i) || (decide (j < i) && Region.waitsFor .any ops i j))
     | none => true)) &&
  ((List.range n).all fun j => match ops[j]? with
    | some o => o.after.all fun e => !Region.binds .any e || decide (e.on < j)
    | none => true) &&
  Region.seqB .any ops (ops.size - n) n (headListed n ops.size)

theorem headChk_spec {ops : Array Oper} {n : Nat} (h : headChk ops n = true) : HeadOk ops n (alAt ops) := by
  simp only [headChk, Bool.and_eq_true] at h
  obtain ⟨⟨⟨⟨⟨h1, h2⟩, h3⟩, h4⟩, h5⟩, h6⟩ := h
  have h2' : n ≤ ops.size := of_decide_eq_true h2
  have hsc : n < ops.size → Region.sinkB .any ops n = true ∧ Region.chainB .any ops n = true := fun hlt => by
    rcases Bool.or_eq_true _ _ ▸ h3 with h | h
    · have := of_decide_eq_true h; omega
    · simpa using h
  have h4' : ∀ i j d, i < n → j < n → dstAt ops i = some d → ((i = j) ∨ dstAt ops j ≠ some d) ∧ (d ∈ looksN ops j → (i < j ∧ Region.waitsFor .any ops j i = true ∧ alAt ops i = false) ∨ (j < i ∧ Region.waitsFor .any ops i j = true)) := fun i j d hi hj hd => by
    have := List.all_eq_true.1 (List.all_eq_true.1 h4 i (List.mem_range.2 hi)) j (List.mem_range.2 hj)
    rw [hd] at this
    simp only [Bool.and_eq_true, Bool.or_eq_true, decide_eq_true_eq, bne_iff_ne, ne_eq, Bool.not_eq_true', List.contains_eq_mem, decide_eq_false_iff_not] at this
    refine ⟨this.1, fun hl => ?_⟩
    rcases this.2 with (h | h) | h
    · exact absurd hl h
    · exact .inl ⟨h.1.1, h.1.2, h.2⟩
    · exact .inr h
  refine ⟨h1, h2', fun h => (hsc h).1, fun h => (hsc h).2, fun i j d hi hj hdi hdj => ?_, fun i j d hi hj hd hl => (h4' i j d hi hj hd).2 hl, fun j o hj ho e he hb => ?_, h6⟩
  · rcases (h4' i j d hi hj hdi).1 with h | h
    · exact h
    · exact absurd hdj h
  · have := List.all_eq_true.1 h5 j (List.mem_range.2 hj)
    rw [ho] at this
    have := Array.all_eq_true_iff_forall_mem.1 this e he
    simpa [hb] using this

/-- One operation of the head that is no new variable. -/
def quietK (P : Program) (T : Tbl) (o : Oper) (tm : List Value) (mem : Mem) (k : Value → Prop) : Prop :=
  match o.op with
  | .call { callee := .value x, args := args, argTypes := _ } => calleeK tm x args fun n vs => ∃ v, CallQ P n vs mem v ∧ k v
  | op => evR T op tm mem k

/-- A new variable of the head: its index, its slot, its type, its cells. -/
abbrev NewVar := Nat × Option Nat × Nat × List Value

def evH (P : Program) (T : Tbl) (ops : List Oper) : List Oper → Nat → List Value → Mem → List NewVar → (List Value → List NewVar → Prop) → Prop
  | [], _, tm, _, als, K => K tm als
  | o :: rest, i, tm, mem, als, K =>
    match isAl o, o.op with
    | true, .alloc t => lookT T t fun ti => putK o.dst undef tm fun tm' => forceL (als ++ [(i, o.dst, t, ti.zero)]) fun als' => evH P T ops rest (i + 1) tm' mem als' K
    | _, _ => guardK ops o tm
      (quietK P T o tm mem fun v => putK o.dst v tm fun tm' => evH P T ops rest (i + 1) tm' mem als K)
      (putK o.dst undef tm fun tm' => evH P T ops rest (i + 1) tm' mem als K)

/-- The new variables take their places. -/
def finK : List NewVar → List Value → Mem → (List Value → Mem → Prop) → Prop
  | [], tm, mem, K => K tm mem
  | (_, d, t, z) :: als, tm, mem, K => numK mem.length fun m => putK d (.pointer (some ⟨m, 0, none⟩)) tm fun tm' => forceL (mem ++ [(z, some t)]) fun mem' => finK als tm' mem' K

/-- The region, its first n operations being the head. -/
def drawAt (P : Program) (T : Tbl) (n : Nat) (ops : List Oper) (tm : List Value) (mem : Mem) (K : List Value → Mem → Prop) : Prop :=
  evH P T ops (ops.take n) 0 tm mem [] fun tm' als => finK als tm' mem fun tm'' mem' => evOps P T ops (ops.drop n) tm'' mem' K

structure DrawK (P : Program) (T : Tbl) (ops : List Oper) (tm : List Value) (mem : Mem) (K : List Value → Mem → Prop) : Prop where
  ex : ∃ n, headChk ops.toArray n = true ∧ drawAt P T n ops tm mem K

/-- How many operations the head has, by their kinds. -/
def headN : List Oper → Nat
  | [] => 0
  | o :: l => match o.op with
    | .store .. | .box .. | .buildSlice .. | .makeMap .. | .insert .. | .mapUpdate .. | .makeSlice .. => 0
    | .alloc _ => match o.guard with
      | none => headN l + 1
      | some _ => 0
    | .call { callee := .builtin b, .. } => match b with
      | .append => 0
      | _ => headN l + 1
    | _ => headN l + 1

/-- As headN, but for the assignments. -/
def headA : List Oper → Nat
  | [] => 0
  | o :: l => match o.op with
    | .assign _ => 0
    | .store .. | .box .. | .buildSlice .. | .makeMap .. | .insert .. | .mapUpdate .. | .makeSlice .. => 0
    | .alloc _ => match o.guard with
      | none => headA l + 1
      | some _ => 0
    | .call { callee := .builtin b, .. } => match b with
      | .append => 0
      | _ => headA l + 1
    | _ => headA l + 1

theorem draw_at {P : Program} {T : Tbl} {ops : List Oper} {tm : List Value} {mem : Mem} {K : List Value → Mem → Prop} (n : Nat) (h : headChk ops.toArray n = true) (hd : drawAt P T n ops tm mem K) : DrawK P T ops tm mem K := ⟨n, h, hd⟩
theorem draw_auto {P : Program} {T : Tbl} {ops : List Oper} {tm : List Value} {mem : Mem} {K : List Value → Mem → Prop} (h : headChk ops.toArray (headN ops) = true) (hd : drawAt P T (headN ops) ops tm mem K) : DrawK P T ops tm mem K := ⟨_, h, hd⟩

theorem draw_asg {P : Program} {T : Tbl} {ops : List Oper} {tm : List Value} {mem : Mem} {K : List Value → Mem → Prop} (h : headChk ops.toArray (headA ops) = true) (hd : drawAt P T (headA ops) ops tm mem K) : DrawK P T ops tm mem K := ⟨_, h, hd⟩

section
variable {P : Program} {T : Tbl}

theorem quietK_sound (hT : T.Ok P) (o : Oper) {tm : List Value} {mem : Mem} {k : Value → Prop} (h : quietK P T o tm mem k) :
    ∃ v, k v ∧ ∀ w0 ρ a w, TmAt ρ tm a → MemAt w0 ρ mem w → quietRun P (MemAt w0 ρ mem) o a (conc ρ v) ∧ ok2 ρ.length v := by
  unfold quietK at h
  split at h
  · rename_i x args ts hop
    obtain ⟨n, vs, ⟨v, hq, hk⟩, hs⟩ := calleeK_sound (P := P) h
    refine ⟨v, hk, fun w0 ρ a w1 ha hm1 => ⟨fun w hm => ?_, by rw [hm1.len]; exact hq.ok⟩⟩
    obtain ⟨hok, hrun⟩ := hs ρ a ha
    rw [hrun o ts hop hq.enters w]
    exact ⟨rfl, hq.run w0 ρ w hm hok⟩
  · obtain ⟨v, hk, hs⟩ := evR_sound hT o h
    refine ⟨v, hk, fun w0 ρ a w1 ha hm1 => ⟨fun w hm => ?_, (hs w0 ρ w1 a ha hm1).2⟩⟩
    rw [(hs w0 ρ w a ha hm).1]
    exact ⟨rfl, rfl⟩

def concR (ρ : List Nat) : HR → HR
  | .q v => .q (conc ρ v)
  | .al t z => .al t z

def vsOf (ops : List Oper) (rf : Nat → HR) : Nat → Nat → List NewVar
  | _, 0 => []
  | i, n + 1 => match rf i with
    | .al t z => (i, dstAt ops.toArray i, t, z) :: vsOf ops rf (i + 1) n
    | .q _ => vsOf ops rf (i + 1) n

theorem vsOf_congr {ops : List Oper} {rf rf' : Nat → HR} : ∀ (n i : Nat), (∀ j, i ≤ j → j < i + n → rf j = rf' j) → vsOf ops rf i n = vsOf ops rf' i n
  | 0, _, _ => rfl
  | n + 1, i, h => by
    unfold vsOf
    rw [h i (by omega) (by omega), vsOf_congr n (i + 1) fun j h1 h2 => h j (by omega) (by omega)]

theorem vsOf_mem {ops : List Oper} {rf : Nat → HR} : ∀ (n i : Nat) (x : NewVar), x ∈ vsOf ops rf i n → i ≤ x.1 ∧ x.1 < i + n ∧ x.2.1 = dstAt ops.toArray x.1 ∧ rf x.1 = .al x.2.2.1 x.2.2.2
  | 0, _, x, h => by cases h
  | n + 1, i, x, h => by
    unfold vsOf at h
    cases hr : rf i with
    | q v =>
      rw [hr] at h
      obtain ⟨h1, h2, h3⟩ := vsOf_mem n (i + 1) x h
      exact ⟨by omega, by omega, h3⟩
    | al t z =>
      rw [hr] at h
      rcases List.mem_cons.1 h with rfl | h
      · exact ⟨Nat.le_refl _, by simp, rfl, hr⟩
      · obtain ⟨h1, h2, h3⟩ := vsOf_mem n (i + 1) x h
        exact ⟨by omega, by omega, h3⟩

theorem vsOf_has {ops : List Oper} {rf : Nat → HR} : ∀ (n i j t : Nat) (z : List Value), i ≤ j → j < i + n → rf j = .al t z → (j, dstAt ops.toArray j, t, z) ∈ vsOf ops rf i n
  | 0, i, j, t, z, h1, h2, _ => by omega
  | n + 1, i, j, t, z, h1, h2, h => by
    unfold vsOf
    by_cases hij : i = j
    · subst hij; rw [h]; exact List.mem_cons_self
    · have := vsOf_has (ops := ops) n (i + 1) j t z (by omega) (by omega) h
      cases rf i with
      | q v => exact this
      | al t' z' => exact List.mem_cons_of_mem _ this

theorem vsOf_sorted {ops : List Oper} {rf : Nat → HR} : ∀ (n i : Nat), (vsOf ops rf i n).Pairwise fun x y => x.1 ≠ y.1
  | 0, _ => List.Pairwise.nil
  | n + 1, i => by
    unfold vsOf
    cases rf i with
    | q v => exact vsOf_sorted n (i + 1)
    | al t z =>
      refine List.Pairwise.cons (fun y hy => ?_) (vsOf_sorted n (i + 1))
      have := (vsOf_mem n (i + 1) y hy).1
      show i ≠ y.1
      omega

def zeroIs (P : Program) (t : Nat) (z : List Value) : Prop := (∀ w, ∃ zv, (zeroValue t).run P w = .ok zv w ∧ zv.cells = z.toArray) ∧ allL plain0 z = true

theorem evH_sound (hT : T.Ok P) {ops : List Oper} {mem : Mem} : ∀ (l : List Oper) (i : Nat) {tm : List Value} {als : List NewVar} {K : List Value → List NewVar → Prop}, evH P T ops l i tm mem als K →
    (∀ j, j < l.length → l[j]? = ops[i + j]?) → ∃ (rf : Nat → HR) (tmF : List Value), K tmF (als ++ vsOf ops rf i l.length) ∧
      (∀ j, i ≤ j → j < i + l.length → alAt ops.toArray j = false → ∃ v, rf j = .q v) ∧
      ∀ w0 ρ w a0 (rec : Nat → HR), MemAt w0 ρ mem w → (∀ j, i ≤ j → j < i + l.length → rec j = concR ρ (rf j)) → TmAt ρ tm (aLex ops.toArray rec a0 i) →
        TmAt ρ tmF (aLex ops.toArray rec a0 (i + l.length)) ∧
        ∀ j o, i ≤ j → j < i + l.length → ops[j]? = some o → match rf j with
          | .q v => YQ P ops.toArray (MemAt w0 ρ mem) o (conc ρ v) (aLex ops.toArray rec a0 j)
          | .al t z => o.op = .alloc t ∧ o.guard = none ∧ zeroIs P t z
  | [], i, tm, als, K, h, _ => ⟨fun _ => .q undef, tm, by unfold evH at h; simpa [vsOf] using h, fun j h1 h2 => by simp at h2; omega, fun w0 ρ w a0 rec hm _ ha => ⟨ha, fun j o h1 h2 => by simp at h2; omega⟩⟩
  | o :: rest, i, tm, als, K, h, hl => by
    have hoi : ops[i]? = some o := by have := hl 0 (by simp); simpa using this.symm
    have hl' : ∀ j, j < rest.length → rest[j]? = ops[i + 1 + j]? := fun j hj => by
      have := hl (j + 1) (by simp; omega)
      rw [show i + 1 + j = i + (j + 1) by omega]
      simpa using this
    have hd : dstAt ops.toArray i = o.dst := by simp [dstAt, hoi]
    have hal : alAt ops.toArray i = isAl o := by simp [alAt, hoi]
    -- one record put ahead of the rest's
    have combine : ∀ (r : HR) (tm' : List Value) (als' : List NewVar), evH P T ops rest (i + 1) tm' mem als' K → als' = als ++ vsOf ops (fun _ => r) i 1 →
        (isAl o = false → ∃ v, r = .q v) →
        (∀ w0 ρ w a, MemAt w0 ρ mem w → TmAt ρ tm a → TmAt ρ tm' (a.put o.dst (concR ρ r).val) ∧ match r with
          | .q v => YQ P ops.toArray (MemAt w0 ρ mem) o (conc ρ v) a
          | .al t z => o.op = .alloc t ∧ o.guard = none ∧ zeroIs P t z) →
        ∃ (rf : Nat → HR) (tmF : List Value), K tmF (als ++ vsOf ops rf i (rest.length + 1)) ∧
          (∀ j, i ≤ j → j < i + (rest.length + 1) → alAt ops.toArray j = false → ∃ v, rf j = .q v) ∧
          ∀ w0 ρ w a0 (rec : Nat → HR), MemAt w0 ρ mem w → (∀ j, i ≤ j → j < i + (rest.length + 1) → rec j = concR ρ (rf j)) → TmAt ρ tm (aLex ops.toArray rec a0 i) →
            TmAt ρ tmF (aLex ops.toArray rec a0 (i + (rest.length + 1))) ∧
            ∀ j o, i ≤ j → j < i + (rest.length + 1) → ops[j]? = some o → match rf j with
              | .q v => YQ P ops.toArray (MemAt w0 ρ mem) o (conc ρ v) (aLex ops.toArray rec a0 j)
              | .al t z => o.op = .alloc t ∧ o.guard = none ∧ zeroIs P t z := by
      intro r tm' als' h1 h2 h3 h4
      obtain ⟨rf', tmF, hK, hA, hF⟩ := evH_sound hT rest (i + 1) h1 hl'
      have hrf : ∀ j, i + 1 ≤ j → (fun j => if j = i then r else rf' j) j = rf' j := fun j hj => by simp; intro e; omega
      refine ⟨fun j => if j = i then r else rf' j, tmF, ?_, fun j h5 h6 h7 => ?_, fun w0 ρ w a0 rec hm hrec ha => ?_⟩
      · rw [h2, List.append_assoc] at hK
        have e1 : vsOf ops (fun j => if j = i then r else rf' j) i (rest.length + 1) = vsOf ops (fun _ => r) i 1 ++ vsOf ops rf' (i + 1) rest.length := by
          rw [← vsOf_congr (ops := ops) (rf := fun j => if j = i then r else rf' j) (rf' := rf') rest.length (i + 1) fun j h8 _ => hrf j h8]
          simp only [vsOf, if_true]
          cases r <;> simp
        rw [e1]; exact hK
      · by_cases hji : j = i
        · subst hji
          obtain ⟨v, hv⟩ := h3 (by rw [← hal]; exact h7)
          exact ⟨v, by simp [hv]⟩
        · obtain ⟨v, hv⟩ := hA j (by omega) (by omega) h7
          exact ⟨v, by simp [hji, hv]⟩
      · obtain ⟨h5, h6⟩ := h4 w0 ρ w _ hm ha
        have hri : rec i = concR ρ r := by have := hrec i (Nat.le_refl _) (by omega); simpa using this
        have ha' : TmAt ρ tm' (aLex ops.toArray rec a0 (i + 1)) := by rw [aLex, hd, hri]; exact h5
        obtain ⟨h7, h8⟩ := hF w0 ρ w a0 rec hm (fun j h9 h10 => by rw [hrec j (by omega) (by omega), hrf j h9]) ha'
        rw [show i + (rest.length + 1) = i + 1 + rest.length by omega]
        refine ⟨h7, fun j o' h9 h10 ho' => ?_⟩
        by_cases hji : j = i
        · subst hji
          rw [hoi] at ho'
          cases ho'
          simp only [if_true]
          exact h6
        · have := h8 j o' (by omega) h10 ho'
          rw [← hrf j (by omega)] at this
          exact this
    unfold evH at h
    split at h
    · rename_i t hisal hop
      obtain ⟨ti, hti, rfl, h'⟩ := lookT_spec h
      rw [putK_eq, forceL_eq] at h'
      have hTi := hT ti hti
      have hg : o.guard = none := by
        unfold isAl at hisal
        split at hisal
        · assumption
        · cases hisal
      have := combine (.al ti.t ti.zero) _ _ h' (by simp [vsOf, hd]) (fun hf => by rw [hisal] at hf; cases hf) (fun w0 ρ w a hm ha =>
        ⟨ha.put o.dst (v := undef) (fun v hv => by cases hv), hop, hg, fun w => by
          obtain ⟨z, hz1, hz2⟩ := hTi.run_zero w
          exact ⟨z, hz1, by rw [← hz2]⟩, hTi.zplain⟩)
      simpa using this
    · rename_i hnot
      rcases guardK_spec h with ⟨h', hw⟩ | ⟨h', hw⟩
      · obtain ⟨v, hk, hs⟩ := quietK_sound hT o h'
        rw [putK_eq] at hk
        have := combine (.q v) _ _ hk (by simp [vsOf]) (fun _ => ⟨v, rfl⟩) (fun w0 ρ w a hm ha => by
          obtain ⟨h1, h2⟩ := hs w0 ρ a w ha hm
          exact ⟨ha.put o.dst h2, .inl ⟨hw ρ a ha, h1⟩⟩)
        simpa using this
      · rw [putK_eq] at h'
        have := combine (.q undef) _ _ h' (by simp [vsOf]) (fun _ => ⟨_, rfl⟩) (fun w0 ρ w a hm ha =>
          ⟨ha.put o.dst (v := undef) (fun v hv => by cases hv), .inr ⟨hw ρ a ha, rfl⟩⟩)
        simpa using this

def foldPut (ν : Nat → Nat) : List NewVar → Act → Act
  | [], a => a
  | x :: vs, a => foldPut ν vs (a.put x.2.1 (.pointer (some ⟨ν x.1, 0, none⟩)))

theorem foldPut_size {ν : Nat → Nat} : ∀ (vs : List NewVar) (a : Act), (foldPut ν vs a).tmps.size = a.tmps.size
  | [], _ => rfl
  | x :: vs, a => by rw [foldPut, foldPut_size vs, put_size]
theorem foldPut_defers {ν : Nat → Nat} : ∀ (vs : List NewVar) (a : Act), (foldPut ν vs a).defers = a.defers
  | [], _ => rfl
  | x :: vs, a => by rw [foldPut, foldPut_defers vs, put_defers]
theorem foldPut_other {ν : Nat → Nat} {t : Nat} : ∀ (vs : List NewVar) (a : Act), (∀ x ∈ vs, x.2.1 ≠ some t) → (foldPut ν vs a).tmps[t]? = a.tmps[t]?
  | [], _, _ => rfl
  | x :: vs, a, h => by rw [foldPut, foldPut_other vs _ fun y hy => h y (by simp [hy]), put_other _ _ _ _ (h x (by simp))]
theorem foldPut_at {ν : Nat → Nat} {t : Nat} : ∀ (vs : List NewVar) (a : Act), vs.Pairwise (fun x y => x.1 ≠ y.1) → (∀ x ∈ vs, ∀ y ∈ vs, x.2.1 = some t → y.2.1 = some t → x.1 = y.1) → t < a.tmps.size →
    ∀ x ∈ vs, x.2.1 = some t → (foldPut ν vs a).tmps[t]? = some (.pointer (some ⟨ν x.1, 0, none⟩))
  | [], _, _, _, _, x, hx, _ => by cases hx
  | y :: vs, a, hp, hu, ht, x, hx, hxt => by
    rw [foldPut]
    rcases List.mem_cons.1 hx with rfl | hx'
    · rw [foldPut_other vs _ fun z hz hzt => (List.rel_of_pairwise_cons hp hz) (hu x (by simp) z (by simp [hz]) hxt hzt), hxt]
      exact put_same _ _ _ ht
    · exact foldPut_at vs _ (List.pairwise_cons.1 hp).2 (fun x hx y hy => hu x (by simp [hx]) y (by simp [hy])) (by rw [put_size]; exact ht) x hx' hxt

/-- A block that lies there already takes its place in the local memory. -/
theorem MemAt.adopt {w0 : Base} {w : World} {ρ : List Nat} {mem : Mem} (h : MemAt w0 ρ mem w) {b t : Nat} {z : List Value} (hb : w.heap[b]? = some (.cells z.toArray t (0, 0))) (hw : w0.w.heap.size ≤ b) (hn : b ∉ ρ)
    (hz : allL plain0 z = true) : MemAt w0 (ρ ++ [b]) (mem ++ [(z, some t)]) w := by
  have hgk : ∀ k, k < ρ.length → (ρ ++ [b]).getD k 0 = ρ.getD k 0 := fun k hk => by simp [List.getD, List.getElem?_append_left, hk]
  have hgn : (ρ ++ [b]).getD ρ.length 0 = b := getD_new ρ b
  have hmem : ∀ k x, (mem ++ [(z, some t)])[k]? = some x → (k < ρ.length ∧ mem[k]? = some x) ∨ (k = ρ.length ∧ x = (z, some t)) := fun k x hk => by
    by_cases hkl : k < mem.length
    · rw [List.getElem?_append_left hkl] at hk; exact .inl ⟨by rw [h.len]; exact hkl, hk⟩
    · have := getElem?_len hk
      simp at this
      have hke : k = mem.length := by omega
      subst hke
      simp at hk
      exact .inr ⟨h.len.symm, hk.symm⟩
  refine ⟨h.os, h.tape, h.output, h.size, by simp [h.len], fun c hc => ?_, fun i j cs t' hi hj he => ?_, fun c hc hk => h.old c hc hk, fun k cs t' hk => ?_, fun k cs t' hk => ?_, fun k cs hk => ?_⟩
  · rcases List.mem_append.1 hc with hc | hc
    · exact h.lt c hc
    · simp at hc; subst hc; exact heap_lt hb
  · have hj' : j < ρ.length + 1 := by simpa using hj
    rcases hmem i _ hi with ⟨h1, h2⟩ | ⟨rfl, _⟩
    · rw [hgk i h1] at he
      by_cases hjl : j < ρ.length
      · rw [hgk j hjl] at he; exact h.inj i j cs t' h2 hjl he
      · have : j = ρ.length := by omega
        subst this
        rw [hgn] at he
        exact absurd (he ▸ getD_mem h1) hn
    · rw [hgn] at he
      by_cases hjl : j < ρ.length
      · rw [hgk j hjl] at he; exact absurd (he ▸ getD_mem hjl) hn
      · omega
  · rcases hmem k _ hk with ⟨h1, h2⟩ | ⟨rfl, _⟩
    · rw [hgk k h1]; exact h.fresh k cs t' h2
    · rw [hgn]; exact .inr hw
  · rcases hmem k _ hk with ⟨h1, h2⟩ | ⟨rfl, h2⟩
    · obtain ⟨h3, h4⟩ := h.own k cs t' h2
      exact ⟨by rw [hgk k h1, map_ext0 h4]; exact h3, fun v hv => ok0_mono (by simp) (h4 v hv)⟩
    · cases h2
      rw [hgn]
      refine ⟨?_, fun v hv => (plain0_ok (allL_spec hz v hv) _ []).1⟩
      rw [map_plain fun v hv => (plain0_ok (allL_spec hz v hv) 0 (ρ ++ [b])).2]
      exact hb
  · rcases hmem k _ hk with ⟨h1, h2⟩ | ⟨_, h2⟩
    · obtain ⟨h3, h0, h4, h5⟩ := h.ro k cs h2
      rw [hgk k h1]
      exact ⟨h3, h0, fun i v hv => by rw [conc0_ext (h5 v (List.mem_of_getElem? hv))]; exact h4 i v hv, fun v hv => ok0_mono (by simp) (h5 v hv)⟩
    · cases h2

theorem finK_sound {w0 : Base} {w : World} {ν : Nat → Nat} : ∀ (vs : List NewVar) {tm : List Value} {mem : Mem} {K : List Value → Mem → Prop}, finK vs tm mem K → ∀ {ρ : List Nat} {a : Act}, TmAt ρ tm a → MemAt w0 ρ mem w →
    (∀ x ∈ vs, w.heap[ν x.1]? = some (.cells x.2.2.2.toArray x.2.2.1 (0, 0)) ∧ w0.w.heap.size ≤ ν x.1 ∧ ν x.1 ∉ ρ ∧ allL plain0 x.2.2.2 = true) → vs.Pairwise (fun x y => ν x.1 ≠ ν y.1) →
    ∃ σ tm' mem', K tm' mem' ∧ TmAt (ρ ++ σ) tm' (foldPut ν vs a) ∧ MemAt w0 (ρ ++ σ) mem' w
  | [], tm, mem, K, h, ρ, a, ha, hm, _, _ => ⟨[], tm, mem, h, by rw [List.append_nil]; exact ha, by rw [List.append_nil]; exact hm⟩
  | x :: vs, tm, mem, K, h, ρ, a, ha, hm, hx, hp => by
    obtain ⟨i, d, t, z⟩ := x
    unfold finK at h
    rw [numK_eq, putK_eq, forceL_eq] at h
    obtain ⟨h1, h2, h3, h4⟩ := hx (i, d, t, z) (by simp)
    have hm' := hm.adopt h1 h2 h3 h4
    have hv : ok2 (ρ ++ [ν i]).length (.pointer (some ⟨mem.length, 0, none⟩)) := by simp [ok2, ok1, ok0, hm.len]
    have ha' := (ha.ext [ν i]).put d hv
    have hcv : conc (ρ ++ [ν i]) (.pointer (some ⟨mem.length, 0, none⟩)) = .pointer (some ⟨ν i, 0, none⟩) := by
      simp only [conc, conc1, conc0, cAddr, ← hm.len, getD_new]
    rw [hcv] at ha'
    obtain ⟨σ, tm', mem', hk, ha'', hm''⟩ := finK_sound vs h ha' hm' (fun y hy => by
      obtain ⟨g1, g2, g3, g4⟩ := hx y (by simp [hy])
      refine ⟨g1, g2, fun hmem => ?_, g4⟩
      rcases List.mem_append.1 hmem with hmem | hmem
      · exact g3 hmem
      · simp at hmem
        exact (List.rel_of_pairwise_cons hp hy) hmem.symm) (List.pairwise_cons.1 hp).2
    refine ⟨[ν i] ++ σ, tm', mem', hk, ?_, ?_⟩
    · rw [← List.append_assoc]; exact ha''
    · rw [← List.append_assoc]; exact hm''

theorem act_eq {a b : Act} (h1 : a.defers = b.defers) (h2 : ∀ t : Nat, a.tmps[t]? = b.tmps[t]?) : a = b := by
  cases a; cases b
  simp only at h1 h2
  subst h1
  congr
  exact Array.ext_getElem? h2

theorem drawK_sound (hT : T.Ok P) (hmix : P.follows .mixedOrders = true) {id : Nat} {ops : List Oper} {tm : List Value} {mem : Mem} {K : List Value → Mem → Prop} (h : DrawK P T ops tm mem K)
    {w0 : Base} {ρ : List Nat} {w : World} {a0 : Act} (ha : TmAt ρ tm a0) (hm : MemAt w0 ρ mem w) {Q : Exit → Act → World → Prop}
    (hQ : ∀ σ tm' mem' a' w', K tm' mem' → TmAt (ρ ++ σ) tm' a' → MemAt w0 (ρ ++ σ) mem' w' → Q .normal a' w') : (Code.region id ops.toArray true).wp P Q a0 w := by
  obtain ⟨n, hchk, hH⟩ := h.ex
  unfold drawAt at hH
  have hc := headChk_spec hchk
  have hle : n ≤ ops.length := by simpa using hc.le
  have htl : (ops.take n).length = n := by simp [hle]
  obtain ⟨rf, tmF, hK, hA, hF⟩ := evH_sound hT (ops.take n) 0 hH (fun j hj => by
    have hj' : j < n := by omega
    simp [hj'])
  rw [htl] at hK hA hF
  simp only [List.nil_append] at hK
  obtain ⟨haF, hfacts⟩ := hF w0 ρ w a0 (fun j => concR ρ (rf j)) hm (fun j _ _ => rfl) ha
  simp only [Nat.zero_add] at haF hfacts hA
  have hop : ∀ (i : Nat) (o : Oper), ops.toArray[i]? = some o → ops[i]? = some o := fun i o ho => by simpa using ho
  refine wp_region_any hmix ?_
  have main := head_any (P := P) (ops := ops.toArray) (rec := fun j => concR ρ (rf j)) (a0 := a0) (n := n) (als := alAt ops.toArray) hc
    (fun i hi hal => by obtain ⟨v, hv⟩ := hA i (Nat.zero_le _) hi hal; exact ⟨conc ρ v, by simp [hv, concR]⟩)
    (Cl := MemAt w0 ρ mem) (B := w0.w.heap.size) (ρ := ρ) (Q := Q)
    (fun w w' h1 h2 => h1.below h2)
    (fun w h1 => ⟨h1.size, fun hin => by have := h1.lt _ hin; omega⟩)
    (fun i o v hi ho hr => by
      have := hfacts i o (Nat.zero_le _) hi (hop i o ho)
      cases hri : rf i with
      | q u => simp only [hri, concR, HR.q.injEq] at hr this; subst hr; exact this
      | al t z => simp [hri, concR] at hr)
    (fun i o t z hi ho hr => by
      have := hfacts i o (Nat.zero_le _) hi (hop i o ho)
      cases hri : rf i with
      | q u => simp [hri, concR] at hr
      | al t' z' =>
        simp only [hri, concR, HR.al.injEq] at hr this
        obtain ⟨rfl, rfl⟩ := hr
        exact ⟨this.1, this.2.1, this.2.2.1⟩)
    (fun a w1 ν inv => ?_)
    n (Array.replicate ops.toArray.size false) a0 { w with drawn := w.drawn + 1 } (fun _ => 0)
    ⟨rfl, rfl, fun i d hi hl _ _ => by
        exfalso
        have hlt : i < ops.length := by omega
        simp [hlt] at hl, fun _ _ => rfl, hm.drew _, fun i t z hi hl _ => by
        exfalso
        have hlt : i < ops.length := by omega
        simp [hlt] at hl, fun i j t z t' z' hi hj hl _ _ _ _ => by
        exfalso
        have hlt : i < ops.length := by omega
        simp [hlt] at hl⟩
    ⟨by simp, fun j oj _ hl => (by rw [getD_replicate_false] at hl; cases hl), fun t _ ht => getD_in (by simpa using ht) (getD_replicate_false _ _)⟩
    (by
      have : ∀ k, k ≤ ops.length → cnt (Array.replicate ops.toArray.size false) k = k := by
        intro k
        induction k with
        | zero => intro _; rfl
        | succ k ih =>
          intro hk
          have hlt : k < ops.length := by omega
          rw [cnt, ih (by omega)]
          simp [hlt]
      exact this n hle)
  · have hsz : n + (ops.toArray.size - n) = ops.toArray.size := by have := hc.le; omega
    rw [hsz] at main
    exact main
  · -- behind the head
    have hlist : ∀ i, i < n → (headListed n ops.toArray.size).getD i true = true := fun i hi => by
      have hlt : i < ops.length := by omega
      simp [headListed, hlt, hi]
    have hvs : ∀ x ∈ vsOf ops rf 0 n, x.1 < n ∧ x.2.1 = dstAt ops.toArray x.1 ∧ rf x.1 = .al x.2.2.1 x.2.2.2 := fun x hx => by
      obtain ⟨_, h2, h3, h4⟩ := vsOf_mem n 0 x hx
      exact ⟨by omega, h3, h4⟩
    have hact : a = foldPut ν (vsOf ops rf 0 n) (aLex ops.toArray (fun j => concR ρ (rf j)) a0 n) := by
      have huniq : ∀ t, ∀ x ∈ vsOf ops rf 0 n, ∀ y ∈ vsOf ops rf 0 n, x.2.1 = some t → y.2.1 = some t → x.1 = y.1 := fun t x hx y hy hxt hyt => by
        obtain ⟨h1, h2, _⟩ := hvs x hx
        obtain ⟨h3, h4, _⟩ := hvs y hy
        exact hc.uniq x.1 y.1 t h1 h3 (by rw [← h2]; exact hxt) (by rw [← h4]; exact hyt)
      refine act_eq ?_ fun t => ?_
      · rw [inv.defers, foldPut_defers, haF.defers, ha.defers]
      · by_cases hlt : t < a0.tmps.size
        · by_cases hx : ∃ i, i < n ∧ dstAt ops.toArray i = some t
          · obtain ⟨i, hi, hd⟩ := hx
            rw [inv.at_ i t hi (hlist i hi) hd hlt]
            cases hri : rf i with
            | al ty z =>
              have hin := vsOf_has (ops := ops) n 0 i ty z (Nat.zero_le _) (by omega) hri
              rw [foldPut_at _ _ (vsOf_sorted n 0) (huniq t) (by rw [aLex_size]; exact hlt) _ hin hd]
              simp [cv, hri, concR]
            | q v =>
              rw [foldPut_other _ _ fun x hx hxt => ?_, aLex_at hc n (Nat.le_refl _) i t hi hd hlt]
              · simp [cv, hri, concR, HR.val]
              · obtain ⟨h1, h2, h3⟩ := hvs x hx
                have := hc.uniq x.1 i t h1 hi (by rw [← h2]; exact hxt) hd
                rw [this, hri] at h3
                cases h3
          · have hx' : ∀ i, i < n → dstAt ops.toArray i ≠ some t := fun i hi hd => hx ⟨i, hi, hd⟩
            rw [inv.other t fun i hi _ => hx' i hi, foldPut_other _ _ fun x hx hxt => ?_, aLex_other n t fun i hi => hx' i hi]
            obtain ⟨h1, h2, _⟩ := hvs x hx
            exact hx' x.1 h1 (by rw [← h2]; exact hxt)
        · rw [Array.getElem?_eq_none (by rw [inv.size]; omega), Array.getElem?_eq_none (by rw [foldPut_size, aLex_size]; omega)]
    obtain ⟨σ, tm', mem', hk, ha', hm'⟩ := finK_sound (w0 := w0) (w := w1) (ν := ν) (vsOf ops rf 0 n) hK haF inv.cl
      (fun x hx => by
        obtain ⟨h1, h2, h3⟩ := hvs x hx
        obtain ⟨h4, h5, h6⟩ := inv.blk x.1 x.2.2.1 x.2.2.2 h1 (hlist _ h1) (by simp [h3, concR])
        refine ⟨h4, h5, h6, ?_⟩
        have hlt : x.1 < ops.length := by omega
        have := hfacts x.1 ops[x.1] (Nat.zero_le _) h1 (by simp [hlt])
        rw [h3] at this
        exact this.2.2.2)
      (by
        refine (vsOf_sorted n 0).imp_of_mem fun {x y} hx hy hxy he => ?_
        obtain ⟨h1, _, h3⟩ := hvs x hx
        obtain ⟨h4, _, h6⟩ := hvs y hy
        exact hxy (inv.inj x.1 y.1 x.2.2.1 x.2.2.2 y.2.2.1 y.2.2.2 h1 h4 (hlist _ h1) (hlist _ h4) (by simp [h3, concR]) (by simp [h6, concR]) he))
    rw [← hact] at ha'
    have hdl : ops.toArray.toList.drop n = ops.drop n := rfl
    rw [hdl]
    refine evOps_sound hT (ops.drop n) hk ha' hm' fun σ' tm'' mem'' a' w' hk' ha'' hm'' => ?_
    rw [List.append_assoc] at ha'' hm''
    exact hQ (σ ++ σ') _ _ _ _ hk' ha'' hm''

end
end Go.Ev
