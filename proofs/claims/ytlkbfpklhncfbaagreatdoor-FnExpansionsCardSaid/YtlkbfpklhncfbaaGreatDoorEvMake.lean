/-
  The evaluator, part 4: the operations that make or write local memory, with their soundness; calls.
  Conditions: none.
-/
import Derived.Test.YtlkbfpklhncfbaaGreatDoorEvRead
set_option linter.unusedVariables false
set_option linter.unusedSimpArgs false
namespace Go.Ev
open Go.RowKit

def upd (w : World) (b : Nat) (o : Obj) : World := { w with heap := w.heap.setIfInBounds b o }

theorem modify_known {α : Type} (xs : Array α) (i : Nat) (f : α → α) (x : α) (h : xs[i]? = some x) : xs.modify i f = xs.setIfInBounds i (f x) := by
  apply Array.ext_getElem?
  intro j
  rw [Array.getElem?_modify, Array.getElem?_setIfInBounds]
  by_cases hij : i = j
  · subst hij
    have hlt : i < xs.size := by
      rcases Nat.lt_or_ge i xs.size with h' | h'
      · exact h'
      · simp [Array.getElem?_eq_none h'] at h
    have hx : xs[i] = x := by simpa [hlt] using h
    simp [hlt, hx]
  · simp [hij]

theorem setCell_upd {w : World} {b t i : Nat} {cs : Array Value} {v : Value} (h : w.heap[b]? = some (.cells cs t (0, 0))) :
    w.setCell ⟨b, i, none⟩ v = upd w b (.cells (cs.setIfInBounds i v) t (0, 0)) := by
  unfold World.setCell upd
  rw [modify_known _ _ _ _ h]
  rfl

theorem upd_heap {w : World} {b : Nat} {o : Obj} (h : b < w.heap.size) (k : Nat) : (upd w b o).heap[k]? = if b = k then some o else w.heap[k]? := by
  unfold upd
  simp only [Array.getElem?_setIfInBounds]
  by_cases hk : b = k
  · subst hk; simp [h]
  · simp [hk]

theorem upd_upd {w : World} {b : Nat} {o o' : Obj} : upd (upd w b o) b o' = upd w b o' := by
  unfold upd
  simp

theorem heap_lt {w : World} {b : Nat} {o : Obj} (h : w.heap[b]? = some o) : b < w.heap.size := by
  rcases Nat.lt_or_ge b w.heap.size with h' | h'
  · exact h'
  · simp [Array.getElem?_eq_none h'] at h

theorem splice_cons {cs : List Value} {o : Nat} {v : Value} {vs : List Value} (h : o < cs.length) : splice (cs.set o v) (o + 1) vs = splice cs o (v :: vs) := by
  apply List.ext_getElem?
  intro j
  simp only [splice, List.getElem?_append, List.length_append, List.length_take, List.length_set, List.length_cons, List.getElem?_take, List.getElem?_drop, List.getElem?_set]
  grind

theorem run_storeCells_blk {P : Program} {b t : Nat} {off : Nat} : ∀ (vs : List Value) (i : Nat) (w : World) (cs : List Value),
    w.heap[b]? = some (.cells cs.toArray t (0, 0)) → off + i + vs.length ≤ cs.length → (∀ v ∈ vs, v.oneCell' = true) →
    (storeCells ⟨b, off, none⟩ vs i).run P w = .ok () (if vs = [] then w else upd w b (.cells (splice cs (off + i) vs).toArray t (0, 0)))
  | [], i, w, cs, _, _, _ => by simp [storeCells]
  | v :: vs, i, w, cs, h, hl, hv => by
    simp only [List.length_cons] at hl
    have hc : w.cell? ⟨b, off + i, none⟩ = some (cs[off + i]'(by omega)) := by rw [cell?_of_cells h]; simp
    have hf : w.frozen? ⟨b, off + i, none⟩ = false := by simp [World.frozen?, h]
    simp only [storeCells, Sem.run_bind, Addr.add_lit, run_store P w _ v .plain (hv v (by simp)), hc, hf, Bool.false_eq_true, if_false, Result.andThen_ok]
    rw [setCell_upd h]
    have hb := heap_lt h
    have h2 : (upd w b (.cells (cs.toArray.setIfInBounds (off + i) v) t (0, 0))).heap[b]? = some (.cells (cs.set (off + i) v).toArray t (0, 0)) := by
      rw [upd_heap hb, if_pos rfl]; simp
    rw [run_storeCells_blk vs (i + 1) _ (cs.set (off + i) v) h2 (by simp; omega) (fun u hu => hv u (by simp [hu]))]
    simp only [List.cons_ne_nil, if_false, reduceCtorEq]
    have e1 : off + (i + 1) = off + i + 1 := by omega
    by_cases hvs : vs = []
    · subst hvs
      simp only [if_true]
      congr 2
      have : splice cs (off + i) [v] = cs.set (off + i) v := by
        rw [← splice_cons (by omega)]; simp [splice]
      rw [this]
      simp
    · simp only [hvs, if_false, upd_upd, e1, splice_cons (show off + i < cs.length by omega)]

/-- A store into one of the call's own blocks. -/
theorem MemAt.store {w0 : Base} {w : World} {ρ : List Nat} {mem : Mem} (h : MemAt w0 ρ mem w) {k t : Nat} {cs cs' : List Value} (hk : mem[k]? = some (cs, some t)) (hcs : ∀ v ∈ cs', ok0 ρ.length v) :
    MemAt w0 ρ (mem.set k (cs', some t)) (upd w (ρ.getD k 0) (.cells (cs'.map (conc0 ρ)).toArray t (0, 0))) := by
  have hkl := getElem?_len hk
  have hkr : k < ρ.length := by rw [h.len]; exact hkl
  have hlt : ρ.getD k 0 < w.heap.size := h.lt _ (getD_mem hkr)
  have hset : ∀ j c s, (mem.set k (cs', some t))[j]? = some (c, some s) → (j = k ∧ c = cs' ∧ s = t) ∨ (j ≠ k ∧ mem[j]? = some (c, some s)) := fun j c s hj => by
    rw [List.getElem?_set] at hj
    by_cases hjk : k = j
    · subst hjk
      simp [hkl] at hj
      exact .inl ⟨rfl, hj.1.symm, hj.2.symm⟩
    · simp [hjk] at hj
      exact .inr ⟨fun e => hjk e.symm, hj⟩
  have hback : ∀ j c s, (mem.set k (cs', some t))[j]? = some (c, some s) → ∃ c', mem[j]? = some (c', some s) := fun j c s hj => by
    rcases hset j c s hj with ⟨rfl, rfl, rfl⟩ | ⟨_, h2⟩
    · exact ⟨_, hk⟩
    · exact ⟨_, h2⟩
  exact {
    lay := h.lay
    os := h.os
    tape := h.tape
    output := h.output
    size := by have := h.size; simpa [upd] using this
    len := by simp [h.len]
    lt := fun b hb => by have := h.lt b hb; simpa [upd] using this
    inj := fun i j c s hi hj he => by
      obtain ⟨c', hc'⟩ := hback i c s hi
      exact h.inj i j c' s hc' hj he
    old := fun b hb hne => by
      rw [upd_heap hlt]
      rcases h.fresh k cs t hk with hin | hge
      · have hne2 : ρ.getD k 0 ≠ b := fun e => hne (by rw [← e]; exact hin)
        rw [if_neg hne2]; exact h.old b hb hne
      · rw [if_neg (by omega)]; exact h.old b hb hne
    fresh := fun j c s hj => by
      obtain ⟨c', hc'⟩ := hback j c s hj
      exact h.fresh j c' s hc'
    own := fun j c s hj => by
      rw [upd_heap hlt]
      rcases hset j c s hj with ⟨rfl, rfl, rfl⟩ | ⟨hjk, h2⟩
      · rw [if_pos rfl]; exact ⟨rfl, hcs⟩
      · obtain ⟨h3, h4⟩ := h.own j c s h2
        rw [if_neg (fun e => hjk (h.inj j k c s h2 hkr e.symm))]
        exact ⟨h3, h4⟩
    ro := fun j c hj => by
      rw [List.getElem?_set] at hj
      by_cases hjk : k = j
      · subst hjk; simp [hkl] at hj
      · simp [hjk] at hj
        exact h.ro j c hj }

/-! ## Operations that make or write local memory -/

def zeros (n : Nat) (z : List Value) : List Value := match n with
  | 0 => []
  | n + 1 => zeros n z ++ z

/-- A store's place is there. -/
structure StoreK (b : Bool) (A : Prop) : Prop where
  ok : b = true
  go : A

/-- A row can be made. -/
structure MadeK (by_ : Nat) (l c : Int) (A : Prop) : Prop where
  l0 : 0 ≤ l
  lc : l ≤ c
  bytes : (by_ : Int) * c ≤ 281474976710656
  c63 : c ≤ 9223372036854775807
  go : A

def evM (T : Tbl) (o : Op) (tm : List Value) (mem : Mem) (k : Value → Mem → Prop) : Prop :=
  match o with
  | .alloc t => lookT T t fun ti => numK mem.length fun n => forceL (mem ++ [(ti.zero, some t)]) fun mem' => k (.pointer (some ⟨n, 0, none⟩)) mem'
  | .box t x => opK tm x fun v => cellsK v fun cs => numK mem.length fun n => forceL (mem ++ [(cs, some t)]) fun mem' => k (.pointer (some ⟨n, 0, none⟩)) mem'
  | .store t x y => lookT T t fun ti => opK tm x fun xv => opK tm y fun yv => cellsK yv fun vs => match xv with
    | .pointer (some ⟨b, off, none⟩) => memK mem b fun blk => match blk.2 with
      | some e => StoreK (Nat.beq vs.length ti.size && Nat.ble (off + vs.length) blk.1.length) (forceL (splice blk.1 off vs) fun cs' => forceL (setM mem b (cs', some e)) fun mem' => k undef mem')
      | none => False
    | _ => False
  | .buildSlice t n parts => lookT T t fun ti => match ti.sh with
    | .slice e es => lookT T e fun ei => match Nat.beq ei.zero.length es && Nat.beq ei.size es && Nat.ble 1 es && Nat.ble (n * es) 16777216 with
      | true => fillK tm (.slice e es) parts.toList (zeros n ei.zero) fun cs =>
          numK mem.length fun m => forceL (mem ++ [(cs, some e)]) fun mem' => k (.slice (some ⟨m, 0, none⟩) n n) mem'
      | false => False
    | _ => False
  | .makeSlice t l c => lookT T t fun ti => match ti.sh with
    | .slice e es => lookT T e fun ei => opK tm l fun lv => opK tm c fun cv => match lv, cv with
      | .int _ lz, .int _ cz => match Nat.beq ei.zero.length es && Nat.beq ei.size es && Nat.ble 1 es with
        | true => MadeK ei.bytes lz cz (numK mem.length fun m => forceL (mem ++ [(zeros cz.toNat ei.zero, some e)]) fun mem' => k (.slice (some ⟨m, 0, none⟩) lz.toNat cz.toNat) mem')
        | false => False
      | _, _ => False
    | _ => False
  | _ => False

/-- The operation o makes of tm and mem the value v and the memory mem'. -/
def MakeOK (P : Program) (o : Oper) (tm : List Value) (mem : Mem) (v : Value) (mem' : Mem) : Prop :=
  ∀ w0 ρ w a, TmAt ρ tm a → MemAt w0 ρ mem w → ∃ σ w' r, (execOp a.eval o).run P w = .ok r w' ∧ (r = .value (conc (ρ ++ σ) v) ∨ (r = .skip ∧ v = undef)) ∧
    MemAt w0 (ρ ++ σ) mem' w' ∧ ok2 (ρ ++ σ).length v

theorem zeros_eq {z : List Value} (hz : 0 < z.length) : ∀ n, zeros n z = (List.range (n * z.length)).map fun j => z.getD (j % z.length) undef
  | 0 => by simp [zeros]
  | n + 1 => by
    rw [zeros, zeros_eq hz n, Nat.succ_mul, List.range_add, List.map_append, List.map_map]
    congr 1
    apply List.ext_getElem?
    intro j
    by_cases hj : j < z.length
    · simp [hj, List.getD, Nat.mod_eq_of_lt hj]
    · rw [List.getElem?_eq_none (by omega), List.getElem?_eq_none (by simp; omega)]

theorem zeros_mem {z : List Value} : ∀ {n : Nat} {v : Value}, v ∈ zeros n z → v ∈ z
  | 0, v, h => by cases h
  | n + 1, v, h => by
    rw [zeros, List.mem_append] at h
    rcases h with h | h
    · exact zeros_mem h
    · exact h

theorem getD_new (ρ : List Nat) (x : Nat) : (ρ ++ [x]).getD ρ.length 0 = x := by simp [List.getD]

theorem oneCell_ok0 {n : Nat} {ρ : List Nat} {v : Value} (h : ok0 n v) : (conc0 ρ v).oneCell' = true := by
  unfold conc0; unfold ok0 at h
  split <;> first | rfl | (cases v <;> first | rfl | exact h.elim | simp_all)

theorem evM_sound {P : Program} {T : Tbl} (hT : T.Ok P) (o : Oper) {tm : List Value} {mem : Mem} {k : Value → Mem → Prop} (h : evM T o.op tm mem k) :
    ∃ v mem', k v mem' ∧ MakeOK P o tm mem v mem' := by
  cases hop : o.op with
  | alloc t =>
    rw [hop] at h
    simp only [evM] at h
    obtain ⟨ti, hti, rfl, h'⟩ := lookT_spec h
    rw [numK_eq, forceL_eq] at h'
    have hTi := hT ti hti
    refine ⟨_, _, h', fun w0 ρ w a ha hm => ?_⟩
    obtain ⟨z, hz1, hz2⟩ := hTi.run_zero w
    have hza : z.cells = (ti.zero.map (conc0 ρ)).toArray := by rw [zero_conc hTi, ← hz2]
    refine ⟨[w.heap.size], w.alloc (.cells (ti.zero.map (conc0 ρ)).toArray ti.t), .value (.pointer (some ⟨w.heap.size, 0, none⟩)), ?_, .inl ?_, hm.alloc (zero_ok hTi _) ti.t, ?_⟩
    · simp only [execOp, hop]
      refine run_value ?_
      simp only [Instr.alloc, Sem.run_bind, hz1, Result.andThen_ok, newVar, newRow, run_newObj, Sem.run_pure, hza, World.alloc]
    · simp only [conc, conc1, conc0, cAddr, ← hm.len, getD_new]
    · simp [ok2, ok1, ok0, ← hm.len]
  | box t x =>
    rw [hop] at h
    simp only [evM] at h
    obtain ⟨v, h1, hv⟩ := opK_sound h
    obtain ⟨h2, hc1, hc2⟩ := cellsK_sound h1
    rw [numK_eq, forceL_eq] at h2
    refine ⟨_, _, h2, fun w0 ρ w a ha hm => ?_⟩
    obtain ⟨he, hvok⟩ := hv ρ a ha
    refine ⟨[w.heap.size], w.alloc (.cells (v.cells.toList.map (conc0 ρ)).toArray t), .value (.pointer (some ⟨w.heap.size, 0, none⟩)), ?_, .inl ?_, hm.alloc (hc1 _ hvok) t, ?_⟩
    · simp only [execOp, hop]
      refine run_value ?_
      simp only [Instr.box, Sem.run_bind, newVar, newRow, run_newObj, Sem.run_pure, Result.andThen_ok, he, hc2 ρ, World.alloc]
    · simp only [conc, conc1, conc0, cAddr, ← hm.len, getD_new]
    · simp [ok2, ok1, ok0, ← hm.len]
  | store t x y =>
    rw [hop] at h
    simp only [evM] at h
    obtain ⟨ti, hti, rfl, h'⟩ := lookT_spec h
    clear h
    obtain ⟨xv, h1, hx⟩ := opK_sound h'
    clear h'
    obtain ⟨yv, h2, hy⟩ := opK_sound h1
    clear h1
    obtain ⟨h3, hc1, hc2⟩ := cellsK_sound h2
    clear h2
    split at h3
    · rename_i b off
      obtain ⟨⟨cs, oe⟩, hb, h4⟩ := memK_spec h3
      clear h3
      cases oe with
      | none => exact h4.elim
      | some e =>
        simp only at h4
        obtain ⟨hchk, h4⟩ := h4
        · rw [forceL_eq, forceL_eq] at h4
          simp only [Bool.and_eq_true] at hchk
          have e1 := Nat.eq_of_beq_eq_true hchk.1
          have e2 := Nat.le_of_ble_eq_true hchk.2
          have hTi := hT ti hti
          refine ⟨_, _, h4, fun w0 ρ w a ha hm => ?_⟩
          obtain ⟨hex, _⟩ := hx ρ a ha
          have hex' : a.eval x = .pointer (some ⟨ρ.getD b 0, off, none⟩) := hex
          obtain ⟨hey, hyok⟩ := hy ρ a ha
          obtain ⟨hh, hcok⟩ := hm.own b cs e hb
          have hsp : ∀ v ∈ splice cs off yv.cells.toList, ok0 ρ.length v := splice_mem hcok (hc1 _ hyok)
          refine ⟨[], upd w (ρ.getD b 0) (.cells ((splice cs off yv.cells.toList).map (conc0 ρ)).toArray e (0, 0)), .skip, ?_, .inr ⟨rfl, rfl⟩, ?_, by simp [undef, ok2]⟩
          · simp only [execOp, hop, Instr.storeAt, Instr.sureAddr, hex', Sem.run_bind, Sem.run_pure, Result.andThen_ok, storeVar, hTi.run_size]
            have hyc : (a.eval y).cells = (yv.cells.toList.map (conc0 ρ)).toArray := by rw [hey]; exact hc2 ρ
            rw [hyc]
            have hsz : ((yv.cells.toList.map (conc0 ρ)).toArray).size = ti.size := by simpa using e1
            rw [if_neg (by simp [hsz])]
            have hst := run_storeCells_blk (P := P) (b := ρ.getD b 0) (t := e) (off := off) (yv.cells.toList.map (conc0 ρ)) 0 w (cs.map (conc0 ρ)) hh (by simp; simp at e2; omega)
              (fun v hv => by
                obtain ⟨u, hu, rfl⟩ := List.mem_map.1 hv
                exact oneCell_ok0 (hc1 _ hyok u hu))
            rw [hst]
            by_cases hnil : yv.cells.toList.map (conc0 ρ) = []
            · have hnil' : yv.cells.toList = [] := by simpa using hnil
              simp only [hnil, if_true, Result.andThen_ok, Sem.run_pure]
              have hs0 : splice cs off yv.cells.toList = cs := by rw [hnil']; simp [splice]
              rw [hs0]
              congr 1
              unfold upd
              have hlt := heap_lt hh
              have : w.heap.setIfInBounds (ρ.getD b 0) (.cells (cs.map (conc0 ρ)).toArray e (0, 0)) = w.heap := by
                apply Array.ext_getElem?
                intro j
                rw [Array.getElem?_setIfInBounds]
                by_cases hj : ρ.getD b 0 = j
                · subst hj; rw [if_pos rfl, if_pos hlt, hh]
                · rw [if_neg hj]
              rw [this]
            · simp only [hnil, if_false, Result.andThen_ok, Sem.run_pure, Nat.add_zero, splice_map]
          · rw [List.append_nil, setM_eq]
            exact hm.store hb hsp
    · exact h3.elim
  | buildSlice t n parts =>
    rw [hop] at h
    simp only [evM] at h
    obtain ⟨ti, hti, rfl, h'⟩ := lookT_spec h
    clear h
    have hTs := (hT ti hti).sh
    split at h'
    · rename_i e es hsh
      rw [hsh] at hTs
      obtain ⟨hs1, hs2⟩ := hTs
      obtain ⟨ei, hei, rfl, h⟩ := lookT_spec h'
      clear h'
      have hE := hT ei hei
      split at h
      · rename_i hchk
        simp only [Bool.and_eq_true] at hchk
        obtain ⟨⟨⟨c1, c2⟩, c3⟩, c4⟩ := hchk
        have e1 := Nat.eq_of_beq_eq_true c1
        have e2 := Nat.eq_of_beq_eq_true c2
        have e3 := Nat.le_of_ble_eq_true c3
        have e4 := Nat.le_of_ble_eq_true c4
        obtain ⟨cs, hk, hf⟩ := fillK_sound h
        rw [numK_eq, forceL_eq] at hk
        refine ⟨_, _, hk, fun w0 ρ w a ha hm => ?_⟩
        have hzok : ∀ v ∈ zeros n ei.zero, ok0 ρ.length v := fun v hv => zero_ok hE _ v (zeros_mem hv)
        obtain ⟨hf1, hf2⟩ := hf ρ a (fun i => some (i * es, es)) ha (fun i o s ho => by obtain ⟨rfl, rfl⟩ := ho; rfl) hzok
        obtain ⟨z, hz1, hz2⟩ := hE.run_zero w
        refine ⟨[w.heap.size], w.alloc (.cells (cs.map (conc0 ρ)).toArray ei.t), .value (.slice (some ⟨w.heap.size, 0, none⟩) n n), ?_, .inl ?_, hm.alloc hf2 ei.t, ?_⟩
        · simp only [execOp, hop]
          refine run_value ?_
          have hpl : (parts.map fun (i, x) => (i, a.eval x)).toList = parts.toList.map fun p => (p.1, a.eval p.2) := by simp
          have h24 : ¬ n * es > 2 ^ 24 := by omega
          have hzc : zeros n ei.zero = (zeros n ei.zero).map (conc0 ρ) := (map_plain fun v hv => (plain0_ok (allL_spec hE.zplain v (zeros_mem hv)) 0 ρ).2).symm
          by_cases hn : n * es = 0
          · have hn0 : n = 0 := by
              rcases Nat.mul_eq_zero.1 hn with h0 | h0
              · exact h0
              · omega
            subst hn0
            simp only [Instr.buildSlice, Sem.run_bind, run_underlying hs1, Result.andThen_ok, run_sizeOf_map hs2, hn, if_neg (show ¬ 0 > 2 ^ 24 by omega), Sem.run_pure, if_true, hpl]
            have : (Array.range 0).map (fun x => (#[] : Array Value)[x % (#[] : Array Value).size]!) = ((zeros 0 ei.zero).map (conc0 ρ)).toArray := by simp [zeros]
            rw [this, hf1]
            simp only [newRow, Sem.run_bind, run_newObj, Result.andThen_ok, Sem.run_pure]
            rfl
          · simp only [Instr.buildSlice, Sem.run_bind, run_underlying hs1, Result.andThen_ok, run_sizeOf_map hs2, if_neg h24, Sem.run_pure, hn, if_false, hz1, hpl]
            have hcell : (Array.range (n * es)).map (fun x => z.cells[x % z.cells.size]!) = ((zeros n ei.zero).map (conc0 ρ)).toArray := by
              rw [← hzc, zeros_eq (by omega) n, e1]
              apply Array.ext'
              have hsz : z.cells.size = es := by rw [← Array.length_toList, hz2, e1]
              simp only [Array.toList_map, Array.toList_range, hsz]
              apply List.map_congr_left
              intro j _
              have hjl : j % es < z.cells.size := by rw [hsz]; exact Nat.mod_lt _ (by omega)
              rw [getElem!_pos z.cells (j % es) hjl, ← hz2]
              simp [List.getD, hjl]
            rw [hcell, hf1]
            simp only [newRow, Sem.run_bind, run_newObj, Result.andThen_ok, Sem.run_pure]
            rfl
        · simp only [conc, conc1, conc0, cAddr, ← hm.len, getD_new]
        · simp [ok2, ok1, ok0, ← hm.len]
      · exact h.elim
    · exact h'.elim
  | makeSlice t l c =>
    rw [hop] at h
    simp only [evM] at h
    obtain ⟨ti, hti, rfl, h'⟩ := lookT_spec h
    clear h
    have hTs := (hT ti hti).sh
    split at h'
    · rename_i e es hsh
      rw [hsh] at hTs
      obtain ⟨hs1, hs2⟩ := hTs
      obtain ⟨ei, hei, rfl, h2⟩ := lookT_spec h'
      clear h'
      have hE := hT ei hei
      obtain ⟨lv, h3, hl⟩ := opK_sound h2
      clear h2
      obtain ⟨cv, h4, hc⟩ := opK_sound h3
      clear h3
      split at h4
      · rename_i kl lz kc cz
        split at h4
        · rename_i hchk
          simp only [Bool.and_eq_true] at hchk
          obtain ⟨⟨c1, c2⟩, c3⟩ := hchk
          have e1 := Nat.eq_of_beq_eq_true c1
          have e2 := Nat.eq_of_beq_eq_true c2
          have e3 := Nat.le_of_ble_eq_true c3
          obtain ⟨g0, g1, g2, g3, hk⟩ := h4
          rw [numK_eq, forceL_eq] at hk
          have hinfo := hE.info
          cases hi : P.info? ei.t with
          | none => rw [hi] at hinfo; cases hinfo
          | some i =>
            rw [hi] at hinfo
            simp only [Option.map_some, Option.some.injEq, Prod.mk.injEq] at hinfo
            obtain ⟨i1, i2, i3⟩ := hinfo
            cases hz : i.zero with
            | none => rw [hz] at i1; cases i1
            | some z =>
              rw [hz] at i1
              simp only [Option.map_some, Option.some.injEq] at i1
              refine ⟨_, _, hk, fun w0 ρ w a ha hm => ?_⟩
              have hzok : ∀ v ∈ zeros cz.toNat ei.zero, ok0 ρ.length v := fun v hv => zero_ok hE _ v (zeros_mem hv)
              have el : a.eval l = .int kl lz := (hl ρ a ha).1
              have ec : a.eval c = .int kc cz := (hc ρ a ha).1
              refine ⟨[w.heap.size], w.alloc (.cells ((zeros cz.toNat ei.zero).map (conc0 ρ)).toArray ei.t), .value (.slice (some ⟨w.heap.size, 0, none⟩) lz.toNat cz.toNat), ?_, .inl ?_, hm.alloc hzok ei.t, ?_⟩
              · simp only [execOp, hop]
                refine run_value ?_
                rw [el, ec, run_make w ti.t ei.t i z hs1 hi hz kl kc lz cz g0 g1 (by rw [i3]; exact g2) g3]
                have hzc : zeros cz.toNat ei.zero = (zeros cz.toNat ei.zero).map (conc0 ρ) := (map_plain fun v hv => (plain0_ok (allL_spec hE.zplain v (zeros_mem hv)) 0 ρ).2).symm
                have hcell : madeCells z.cells (cz.toNat * i.size) = ((zeros cz.toNat ei.zero).map (conc0 ρ)).toArray := by
                  rw [← hzc, zeros_eq (by omega) cz.toNat, e1, i2, e2]
                  unfold madeCells
                  apply Array.ext'
                  have hsz : z.cells.size = es := by rw [← Array.length_toList, i1, e1]
                  simp only [Array.toList_map, Array.toList_range, hsz]
                  apply List.map_congr_left
                  intro j _
                  have hjl : j % es < z.cells.size := by rw [hsz]; exact Nat.mod_lt _ (by omega)
                  rw [getElem!_pos z.cells (j % es) hjl, ← i1]
                  simp [List.getD, hjl]
                rw [hcell]
              · simp only [conc, conc1, conc0, cAddr, ← hm.len, getD_new]
              · simp [ok2, ok1, ok0, ← hm.len]
        · exact h4.elim
      · exact h4.elim
    · exact h'.elim
  | _ => rw [hop] at h; exact h.elim

end Go.Ev
