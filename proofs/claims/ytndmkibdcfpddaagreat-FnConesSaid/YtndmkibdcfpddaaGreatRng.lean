/-
  The evaluator inside a round of a range over a function; parts of code; frames with deferred calls; memory seen from another world.
  Conditions: none.
-/
import Derived.Test.YtndmkibdcfpddaaGreatEvUse
import Derived.RangeFuncNested
import Derived.RangeFuncBound
import Derived.RangeFuncCalls
import Derived.RangeFuncLeaves
import Derived.RangeFuncBox
import Derived.OwnWalkIn
set_option linter.unusedVariables false
set_option linter.unusedSimpArgs false
namespace Go.Ev
open Go.RowKit

noncomputable def evHd (P : Program) (T : Tbl) (m0 : Nat) (n : Nat) : Code → List Value → Mem → Post → Prop :=
  @Nat.rec (fun _ => Code → List Value → Mem → Post → Prop) (fun _ tm mem K => K .normal tm mem)
    (fun _ ih c tm mem K => match c with
      | .seq a b => ev P T m0 a tm mem fun e tm' mem' => match e with
        | .normal => ih b tm' mem' K
        | e => K e tm' mem'
      | _ => False) n
def tailC (n : Nat) : Code → Code :=
  @Nat.rec (fun _ => Code → Code) (fun c => c) (fun _ ih c => match c with
    | .seq _ b => ih b
    | c => c) n
theorem evHd_sound {P : Program} {T : Tbl} (hT : T.Ok P) (hmix : P.follows .mixedOrders = true) {w0 : Base} {m0 : Nat} {ρ0 : List Nat} (hρ : ρ0.length = m0) : ∀ (n : Nat) (c : Code) {tm : List Value} {mem : Mem} {K : Post}, evHd P T m0 n c tm mem K →
    ∀ {σ : List Nat} {w : World} {a : Act}, TmAt (ρ0 ++ σ) tm a → MemAt w0 (ρ0 ++ σ) mem w → ∀ {Q : Exit → Act → World → Prop},
    (∀ σ tm' mem' a' w', K .normal tm' mem' → TmAt (ρ0 ++ σ) tm' a' → MemAt w0 (ρ0 ++ σ) mem' w' → (tailC n c).wp P Q a' w') →
    (∀ e σ tm' mem' a' w', e ≠ .normal → K e tm' mem' → TmAt (ρ0 ++ σ) tm' a' → MemAt w0 (ρ0 ++ σ) mem' w' → Q e a' w') → c.wp P Q a w
  | 0, c, tm, mem, K, h, σ, w, a, ha, hm, Q, hN, hQ => hN σ tm mem a w h ha hm
  | n + 1, .seq x y, tm, mem, K, h, σ, w, a, ha, hm, Q, hN, hQ => by
    have h : ev P T m0 x tm mem fun e tm' mem' => match e with
        | .normal => evHd P T m0 n y tm' mem' K
        | e => K e tm' mem' := h
    refine wp_seq (ev_sound hT hmix hρ x h ha hm fun e σ' tm' mem' a' w' hk ha' hm' => ?_)
    cases e with
    | normal => exact evHd_sound hT hmix hρ n y hk ha' hm' hN hQ
    | _ => exact hQ _ σ' _ _ _ _ (by intro h; cases h) hk ha' hm'
  | n + 1, .skip, _, _, _, h, _, _, _, _, _, _, _, _ => (h : False).elim
  | n + 1, .region _ _ _, _, _, _, h, _, _, _, _, _, _, _, _ => (h : False).elim
  | n + 1, .cond _ _ _, _, _, _, h, _, _, _, _, _, _, _, _ => (h : False).elim
  | n + 1, .block _ _, _, _, _, h, _, _, _, _, _, _, _, _ => (h : False).elim
  | n + 1, .loop _, _, _, _, h, _, _, _, _, _, _, _, _ => (h : False).elim
  | n + 1, .rangeFunc _ _ _ _, _, _, _, h, _, _, _, _, _, _, _, _ => (h : False).elim
  | n + 1, .exit _, _, _, _, h, _, _, _, _, _, _, _, _ => (h : False).elim
  | n + 1, .goto _, _, _, _, h, _, _, _, _, _, _, _, _ => (h : False).elim
  | n + 1, .label _, _, _, _, h, _, _, _, _, _, _, _, _ => (h : False).elim
  | n + 1, .ret, _, _, _, h, _, _, _, _, _, _, _, _ => (h : False).elim

def isDefer : Op → Bool
  | .defer _ => true
  | _ => false
def noDefer : List Oper → Bool
  | [] => true
  | o :: l => !isDefer o.op && noDefer l
theorem noDefer_mem : ∀ {l : List Oper}, noDefer l = true → ∀ o ∈ l, isDefer o.op = false
  | [], _, o, ho => by cases ho
  | x :: l, h, o, ho => by
    simp only [noDefer, Bool.and_eq_true, Bool.not_eq_true'] at h
    rcases List.mem_cons.1 ho with rfl | ho
    · exact h.1
    · exact noDefer_mem h.2 o ho
theorem not_defer {op : Op} (h : isDefer op = false) : ∀ c, op ≠ .defer c := fun c e => by rw [e] at h; cases h

abbrev rnd (l : Nat) : Fence := Fence.wide.inRound l

theorem oper_in {l n : Nat} {P : Program} {o : Oper} {a : Act} {w : World} {next : Act → World → Prop} {Q : Exit → Act → World → Prop} (hd : isDefer o.op = false) (h : o.wp P a w next Q) : o.wpIn (rnd l) n P a w next Q := by
  refine ⟨fun _ _ => trivial, ?_⟩
  rw [Oper.semAt_plain _ _ _ (not_defer hd)]
  unfold Oper.wp at h
  generalize (execOp a.eval o).run P w = r at h ⊢
  cases r with
  | ok x w' =>
    cases x with
    | enter f args =>
      have h : Calls P f args w' _ := h
      exact ⟨fun hs => (by cases hs), CallsIn.inRound l (CallsIn.mono (callsIn_wide.2 h) (fun e w2 he => by cases e <;> exact he))⟩
    | row r args =>
      have h : Rows P r args w' _ := h
      refine ⟨fun hs => (by cases hs), fun c cs _ => ?_⟩
      obtain ⟨v, w2, q, s⟩ := h c cs
      exact ⟨v, w2, q, stepsIn_wide.2 s⟩
    | value v => exact h
    | skip => exact h
    | defer d => exact h
    | _ => exact (h : False).elim
  | halt x w' => cases x <;> first | exact h | exact (h : False).elim

theorem list_in {l n : Nat} {P : Program} {ops : Array Oper} {Q : Exit → Act → World → Prop} (hL : ¬ LetsOut Q) : ∀ (rest : List Oper) (a : Act) (w : World), noDefer rest = true → wpList P ops Q rest a w → wpListIn (rnd l) n P ops Q rest a w
  | [], a, w, _, h => h
  | o :: rest, a, w, hd, h => by
    simp only [noDefer, Bool.and_eq_true, Bool.not_eq_true'] at hd
    unfold wpList at h
    unfold wpListIn
    split
    · rename_i hw
      rw [if_pos hw] at h
      rcases h with h | h
      · exact oper_in hd.1 (Oper.wp_mono (fun a w => list_in hL rest a w hd.2) h)
      · exact absurd h.2 hL
    · rename_i hw
      rw [if_neg hw] at h
      exact ⟨fun _ _ => trivial, list_in hL rest _ w hd.2 h⟩
theorem any_in {l n : Nat} {P : Program} {md : Region.Mode} {ops : Array Oper} {Q : Exit → Act → World → Prop} (hd : noDefer ops.toList = true) (hL : ¬ LetsOut Q) : ∀ (fuel : Nat) (listed : Array Bool) (a : Act) (w : World), wpAny P md ops Q fuel listed a w → wpAnyIn (rnd l) n P md ops Q fuel listed a w
  | 0, listed, a, w, h => h
  | fuel + 1, listed, a, w, h => by
    refine ⟨h.1, fun i hi => ?_⟩
    have h2 := h.2 i hi
    unfold wpOp at h2
    unfold wpOpIn
    cases ho : ops[i]? with
    | none => rw [ho] at h2; exact any_in hd hL fuel _ a w h2
    | some o =>
      rw [ho] at h2
      simp only at h2 ⊢
      have hod : isDefer o.op = false := noDefer_mem hd o (by simpa using Array.mem_of_getElem? ho)
      split
      · rename_i hw
        rw [if_pos hw] at h2
        rcases h2 with h2 | h2
        · exact oper_in hod (Oper.wp_mono (fun a w => any_in hd hL fuel _ a w) h2)
        · exact absurd h2.2 hL
      · rename_i hw
        rw [if_neg hw] at h2
        exact ⟨fun _ _ => trivial, any_in hd hL fuel _ _ w h2⟩

section
variable {P : Program} {T : Tbl}
theorem drawK_any (hT : T.Ok P) {ops : List Oper} {tm : List Value} {mem : Mem} {K : List Value → Mem → Prop} (h : DrawK P T ops tm mem K)
    {w0 : Base} {ρ : List Nat} {w : World} {a0 : Act} (ha : TmAt ρ tm a0) (hm : MemAt w0 ρ mem w) {Q : Exit → Act → World → Prop}
    (hQ : ∀ σ tm' mem' a' w', K tm' mem' → TmAt (ρ ++ σ) tm' a' → MemAt w0 (ρ ++ σ) mem' w' → Q .normal a' w') : wpAny P .any ops.toArray (noPan Q) ops.toArray.size (Array.replicate ops.toArray.size false) a0 { w with drawn := w.drawn + 1 } := by
  have hQ' : ∀ σ tm' mem' a' w', K tm' mem' → TmAt (ρ ++ σ) tm' a' → MemAt w0 (ρ ++ σ) mem' w' → noPan Q .normal a' w' := hQ
  rcases h.ex with ⟨plan, hb, hchk, hH⟩ | ⟨p, hchk, hH⟩
  case inr =>
    simp only [Bool.and_eq_true, decide_eq_true_eq] at hchk
    exact pt_sound hT p _ 0 _ _ hchk.2 hH ha (hm.drew (w.drawn + 1)) (Q := Q) fun σ tm' mem' a' w' hk ha' hm' => ⟨hchk.1, hQ' σ tm' mem' a' w' hk ha' hm'⟩
  have := planK_sound hT hb plan 0 hchk hH ha (hm.drew (w.drawn + 1)) (Q := noPan Q) hQ'
  rw [Nat.sub_zero] at this
  have e1 : headListed 0 ops.toArray.size = Array.replicate ops.toArray.size false := by
    apply Array.ext_getElem?
    intro j
    by_cases hj : j < ops.length
    · simp [headListed, hj]
    · simp [headListed, hj]
  rw [e1] at this
  exact this

def rOk : Code → Bool
  | .skip => true
  | .region _ ops _ => noDefer ops.toList
  | .seq x y => rOk x && rOk y
  | .cond _ x y => rOk x && rOk y
  | .block _ x => rOk x
  | .exit _ => true
  | .ret => true
  | _ => false

theorem evr_sound (hT : T.Ok P) (hmix : P.follows .mixedOrders = true) {w0 : Base} {m0 : Nat} {ρ0 : List Nat} (hρ : ρ0.length = m0) {l n : Nat} : ∀ (c : Code), rOk c = true → ∀ {tm : List Value} {mem : Mem} {K : Post}, ev P T m0 c tm mem K →
    ∀ {σ : List Nat} {w : World} {a : Act}, TmAt (ρ0 ++ σ) tm a → MemAt w0 (ρ0 ++ σ) mem w → ∀ {Q : Exit → Act → World → Prop}, ¬ LetsOut Q →
    (∀ e σ tm' mem' a' w', K e tm' mem' → TmAt (ρ0 ++ σ) tm' a' → MemAt w0 (ρ0 ++ σ) mem' w' → Q e a' w') → c.wpIn (rnd l) n P Q a w := by
  intro c
  induction c with
  | skip =>
    intro _ tm mem K h σ w a ha hm Q hL hQ
    exact wpIn_skip (hQ .normal σ tm mem a w h ha hm)
  | region id ops draw =>
    intro hr tm mem K h σ w a ha hm Q hL hQ
    cases draw with
    | false =>
      refine wpIn_region_list (list_in hL _ _ _ hr ?_)
      have := evOps_sound hT ops.toList h ha hm (Q := Q) (fun σ' tm' mem' a' w' hk ha' hm' => by
        rw [List.append_assoc] at ha' hm'
        exact hQ .normal (σ ++ σ') tm' mem' a' w' hk ha' hm')
      simpa using this
    | true =>
      have := drawK_any hT h ha hm (Q := Q) (fun σ' tm' mem' a' w' hk ha' hm' => by
        rw [List.append_assoc] at ha' hm'
        exact hQ .normal (σ ++ σ') tm' mem' a' w' hk ha' hm')
      have hL' : ¬ LetsOut (noPan Q) := fun ⟨a, w, h⟩ => hL ⟨a, w, noPan_imp _ _ _ h⟩
      have h2 := any_in (l := l) (n := n) (ops := ops) hr hL' _ _ _ _ (by simpa using this)
      exact wpIn_mono (wpIn_region_any hmix h2) noPan_imp
  | seq x y ihx ihy =>
    intro hr tm mem K h σ w a ha hm Q hL hQ
    simp only [rOk, Bool.and_eq_true] at hr
    refine wpIn_seq (ihx hr.1 h ha hm (fun ⟨a, w, h⟩ => hL ⟨a, w, h⟩) fun e σ' tm' mem' a' w' hk ha' hm' => ?_)
    cases e with
    | normal => exact ihy hr.2 hk ha' hm' hL hQ
    | _ => exact hQ _ σ' _ _ _ _ hk ha' hm'
  | cond c x y ihx ihy =>
    intro hr tm mem K h σ w a ha hm Q hL hQ
    simp only [rOk, Bool.and_eq_true] at hr
    obtain ⟨cv, h, hc⟩ := opK_sound (tm := tm) (x := c) h
    split at h
    · rename_i b
      have hcb : a.eval c = .bool b := (hc _ a ha).1
      rcases br_cases h with ⟨rfl, h⟩ | ⟨rfl, h⟩
      · exact wpIn_cond_true hcb (ihx hr.1 h ha hm hL hQ)
      · exact wpIn_cond_false hcb (ihy hr.2 h ha hm hL hQ)
    · exact h.elim
  | block id x ih =>
    intro hr tm mem K h σ w a ha hm Q hL hQ
    refine wpIn_block (ih hr h ha hm (fun ⟨a, w, h⟩ => hL ⟨a, w, h⟩) fun e σ' tm' mem' a' w' hk ha' hm' => ?_)
    cases e with
    | exit i =>
      simp only [Exit.inBlock]
      simp only at hk
      split at hk
      · rename_i hb
        rw [if_pos (Nat.eq_of_beq_eq_true hb)]
        exact hQ .normal σ' _ _ _ _ hk ha' hm'
      · rename_i hb
        rw [if_neg (fun e => by subst e; rw [Nat.beq_refl] at hb; cases hb)]
        exact hQ (.exit i) σ' _ _ _ _ hk ha' hm'
    | _ => exact hQ _ σ' _ _ _ _ hk ha' hm'
  | exit id =>
    intro _ tm mem K h σ w a ha hm Q hL hQ
    exact wpIn_exit (hQ (.exit id) σ tm mem a w h ha hm)
  | ret =>
    intro _ tm mem K h σ w a ha hm Q hL hQ
    exact wpIn_ret (hQ .ret σ tm mem a w h ha hm)
  | _ => intro hr; cases hr
end

def lsOp : Op → Bool
  | .load .. => true
  | .store .. => true
  | .move .. => true
  | _ => false
def lsAll : List Oper → Bool
  | [] => true
  | o :: l => lsOp o.op && lsAll l
theorem no_def {P : Program} {o : Oper} (h : lsOp o.op = true) (ρ : Operand → Value) (w : World) (d : Deferred) (w' : World) : (execOp ρ o).run P w ≠ .ok (.defer d) w' := by
  intro e
  unfold execOp at e
  cases ho : o.op with
  | load t x =>
    rw [ho] at e
    simp only [Sem.run_bind] at e
    cases hr : (Instr.loadAt t (ρ x)).run P w with
    | ok v w1 => rw [hr] at e; simp [Result.andThen, Sem.run_pure] at e
    | halt v w1 => rw [hr] at e; simp [Result.andThen] at e
  | store t x y =>
    rw [ho] at e
    simp only [Sem.run_bind] at e
    cases hr : (Instr.storeAt t (ρ x) (ρ y)).run P w with
    | ok v w1 => rw [hr] at e; simp [Result.andThen, Sem.run_pure] at e
    | halt v w1 => rw [hr] at e; simp [Result.andThen] at e
  | move x =>
    rw [ho] at e
    simp [Sem.run_pure] at e
  | _ => rw [ho] at h; cases h
theorem list_defs {P : Program} {ops : Array Oper} {Q : Exit → Act → World → Prop} {ds : List Deferred} : ∀ (rest : List Oper) (a : Act) (w : World), lsAll rest = true →
    wpList P ops (fun e a' w' => Q e { a' with defers := ds } w') rest a w → wpList P ops Q rest { a with defers := ds } w
  | [], a, w, _, h => h
  | o :: rest, a, w, hd, h => by
    simp only [lsAll, Bool.and_eq_true] at hd
    have hput : ∀ (a : Act) (v : Value), { a.put o.dst v with defers := ds } = ({ a with defers := ds } : Act).put o.dst v := fun a v => by cases o.dst <;> rfl
    unfold wpList at h ⊢
    show if Region.wanted o (yielded ops a.tmps) then _ else _
    split
    · rename_i hw
      rw [if_pos hw] at h
      refine h.imp (fun h => ?_) (fun h => ⟨h.1, let ⟨a, w, q⟩ := h.2; ⟨_, w, q⟩⟩)
      unfold Oper.wp at h ⊢
      have ev : ({ a with defers := ds } : Act).eval = a.eval := rfl
      rw [ev]
      cases hr : (execOp a.eval o).run P w with
      | ok x w1 =>
        rw [hr] at h
        cases x with
        | value v =>
          have := list_defs rest _ w1 hd.2 h
          rw [hput] at this
          exact this
        | skip =>
          have := list_defs rest _ w1 hd.2 h
          rw [hput] at this
          exact this
        | defer d => exact absurd hr (no_def hd.1 _ _ _ _)
        | enter f args =>
          refine Calls.mono h fun e w2 he => ?_
          cases e with
          | returned v =>
            have := list_defs rest _ w2 hd.2 he
            rw [hput] at this
            exact this
          | panicked c => exact he
          | outgrown => exact let ⟨a, w, q⟩ := he; ⟨_, w, q⟩
        | row r args =>
          refine Rows.mono h fun v w2 he => ?_
          have := list_defs rest _ w2 hd.2 he
          rw [hput] at this
          exact this
        | _ => exact (h : False).elim
      | halt x w1 =>
        rw [hr] at h
        cases x <;> first | exact h | exact (h : False).elim
    · rename_i hw
      rw [if_neg hw] at h
      have := list_defs rest _ w hd.2 h
      rw [hput] at this
      exact this

theorem MemAt.grown {w0 : Base} {ρ : List Nat} {mem : Mem} {A W : World} {row : Option Nat} (h : MemAt w0 ρ mem A) (hg : A.grownBy W row) (hr : ∀ r, row = some r → w0.w.heap.size ≤ r ∧ ∃ o : Obj, A.heap[r]? = some o ∧ o.isCells = false) : MemAt w0 ρ mem W where
  os := hg.os.trans h.os
  tape := hg.tape.trans h.tape
  output := hg.output.trans h.output
  size := Nat.le_trans h.size hg.size
  len := h.len
  lt := fun b hb => Nat.lt_of_lt_of_le (h.lt b hb) hg.size
  inj := h.inj
  old := fun b hb hn => by
    rw [hg.block b (Nat.lt_of_lt_of_le hb h.size) (fun e => by have := (hr b e.symm).1; omega)]
    exact h.old b hb hn
  fresh := h.fresh
  own := fun k cs t hk => by
    obtain ⟨h1, h2⟩ := h.own k cs t hk
    refine ⟨?_, h2⟩
    rw [hg.block _ (h.lt _ (getD_mem (by rw [h.len]; exact getElem?_len hk))) (fun e => by
      obtain ⟨_, o, ho, hc⟩ := hr _ e.symm
      rw [h1] at ho; cases ho; cases hc)]
    exact h1
  ro := h.ro
theorem memAt_ownFrom {β : Type} {w0 : Base} {B : Nat} (hB : w0.w.heap.size ≤ B) (f : β → List Nat → Mem → Prop) : OwnFrom B (fun (s : β) W => ∃ ρ mem, f s ρ mem ∧ MemAt w0 ρ mem W) :=
  fun s A W row ⟨ρ, mem, h1, h2⟩ hg hr => ⟨ρ, mem, h1, h2.grown hg fun r e => ⟨Nat.le_trans hB (hr r e).1, (hr r e).2⟩⟩

def ownAll : Mem → Bool
  | [] => true
  | (_, some _) :: m => ownAll m
  | (_, none) :: _ => false
theorem ownAll_get : ∀ {m : Mem} (h : ownAll m = true) {k : Nat} {b : Blk}, m[k]? = some b → ∃ t, b.2 = some t
  | [], _, k, b, hk => by simp at hk
  | (cs, some t) :: m, h, 0, b, hk => by simp at hk; subst hk; exact ⟨t, rfl⟩
  | (cs, some t) :: m, h, k + 1, b, hk => ownAll_get (m := m) h (by simpa using hk)
  | (cs, none) :: m, h, k, b, hk => by cases h
theorem MemAt.at_own {w0 : Base} {ρ : List Nat} {mem : Mem} {W : World} (h : MemAt w0 ρ mem W) (ho : ownAll mem = true) {b : Nat} (hb : b ∈ ρ) : (b ∈ w0.wr ∨ w0.w.heap.size ≤ b) ∧ ∃ cs t, W.heap[b]? = some (.cells cs t (0, 0)) := by
  obtain ⟨k, hk, rfl⟩ := List.getElem_of_mem hb
  have hkm : k < mem.length := by rw [← h.len]; exact hk
  obtain ⟨t, ht⟩ := ownAll_get ho (List.getElem?_eq_getElem hkm)
  have hm : mem[k]? = some (mem[k].1, some t) := by rw [List.getElem?_eq_getElem hkm, ← ht]
  have e : ρ.getD k 0 = ρ[k] := by simp [List.getD, hk]
  have h1 := h.fresh k _ t hm
  have h2 := (h.own k _ t hm).1
  rw [e] at h1 h2
  exact ⟨h1, _, _, h2⟩
theorem MemAt.rebase {w0 : Base} {ρ : List Nat} {mem : Mem} {W : World} (h : MemAt w0 ρ mem W) (ho : ownAll mem = true) : MemAt ⟨W, ρ⟩ ρ mem W where
  os := rfl
  tape := rfl
  output := rfl
  size := Nat.le_refl _
  len := h.len
  lt := h.lt
  inj := h.inj
  old := fun _ _ _ => rfl
  fresh := fun k cs t hk => .inl (getD_mem (by rw [h.len]; exact getElem?_len hk))
  own := h.own
  ro := fun k cs hk hne => by
    obtain ⟨t, ht⟩ := ownAll_get ho hk
    cases ht
theorem MemAt.unbase {w0 : Base} {ρ ρ' : List Nat} {mem mem' : Mem} {W W' : World} (h : MemAt w0 ρ mem W) (ho : ownAll mem = true) (h' : MemAt ⟨W, ρ⟩ ρ' mem' W') (ho' : ownAll mem' = true) : MemAt w0 ρ' mem' W' where
  os := h'.os.trans h.os
  tape := h'.tape.trans h.tape
  output := h'.output.trans h.output
  size := Nat.le_trans h.size h'.size
  len := h'.len
  lt := h'.lt
  inj := h'.inj
  old := fun b hb hn => by
    have hbr : b ∉ ρ := fun hbr => by
      rcases (h.at_own ho hbr).1 with h1 | h1
      · exact hn h1
      · omega
    exact (h'.old b (Nat.lt_of_lt_of_le hb h.size) hbr).trans (h.old b hb hn)
  fresh := fun k cs t hk => by
    rcases h'.fresh k cs t hk with h1 | h1
    · exact (h.at_own ho h1).1
    · exact .inr (Nat.le_trans h.size h1)
  own := h'.own
  ro := fun k cs hk hne => by
    obtain ⟨t, ht⟩ := ownAll_get ho' hk
    cases ht
theorem MemAt.others {w0 : Base} {ρ ρ' : List Nat} {mem mem' : Mem} {W W' : World} (h : MemAt w0 ρ mem W) (ho : ownAll mem = true) (h' : MemAt ⟨W, ρ⟩ ρ' mem' W') : KeepsOthers W W' ∧ ∀ b, b < W.heap.size → b ∉ ρ → W'.heap[b]? = W.heap[b]? :=
  ⟨⟨h'.size, fun k o hk hc => (h'.old k (Array.getElem?_eq_some_iff.1 hk).1 (fun hkr => by
    obtain ⟨_, cs, t, h2⟩ := h.at_own ho hkr
    rw [hk] at h2; cases h2; cases hc)).trans hk⟩, fun b hb hn => h'.old b hb hn⟩
theorem TmAt.set {ρ : List Nat} {tm : List Value} {a : Act} (h : TmAt ρ tm a) {i : Nat} {v : Value} (hi : a.tmps[i]? = some (conc ρ v)) (ho : ok2 ρ.length v) : TmAt ρ (tm.set i v) a := by
  refine ⟨by rw [h.size]; simp, fun j u hu hw => ?_, h.defers⟩
  rw [List.getElem?_set] at hu
  by_cases hij : i = j
  · subst hij
    by_cases hl : i < tm.length
    · simp [hl] at hu; subst hu; exact ⟨hi, ho⟩
    · simp [hl] at hu
  · simp only [hij, if_false] at hu
    exact h.get j u hu hw
theorem TmAt.params {ρ : List Nat} {tm : List Value} {a : Act} (h : TmAt ρ tm a) {p q : Nat} {u v : Value} (hu : ok2 ρ.length u) (hv : ok2 ρ.length v) :
    TmAt ρ ((tm.set p u).set q v) { tmps := (#[p, q].zip #[conc ρ u, conc ρ v]).foldl (fun t (x : Nat × Value) => t.setIfInBounds x.1 x.2) a.tmps, defers := [] } := by
  have h1 := (h.put (some p) hu).put (some q) hv
  refine ⟨?_, fun i w hw hi => ?_, rfl⟩
  · have := h1.size; simpa [putT, Act.put] using this
  · have := h1.get i w hw hi
    simpa [putT, Act.put] using this

theorem TmAt.putWild {ρ : List Nat} {tm : List Value} {a : Act} (h : TmAt ρ tm a) {d : Nat} (hw : isWild (nthV tm d) = true) (u : Value) : TmAt ρ tm (a.put (some d) u) := by
  refine ⟨by simpa [Act.put] using h.size, fun i v hi hn => ?_, h.defers⟩
  have := h.get i v hi hn
  simp only [Act.put, Array.getElem?_setIfInBounds]
  by_cases hd : d = i
  · subst hd
    rw [nthV_eq] at hw
    simp only [List.getD, hi, Option.getD_some] at hw
    rw [hw] at hn; cases hn
  · rw [if_neg hd]; exact this
theorem tmAt_start {ρ : List Nat} {args : List Value} {n : Nat} (hargs : ∀ v ∈ args, ok2 ρ.length v) :
    TmAt ρ (args ++ undefs (n - args.length)) { tmps := (args.map (conc ρ)).toArray ++ Array.replicate (n - (args.map (conc ρ)).toArray.size) undef, defers := [] } := by
  refine ⟨?_, fun i v hv _ => ?_, rfl⟩
  · simp [undefs_eq]
  · rw [undefs_eq] at hv
    have hv' := List.mem_of_getElem? hv
    refine ⟨?_, ?_⟩
    · have e1 : (args.map (conc ρ)).toArray ++ Array.replicate (n - args.length) undef = ((args ++ List.replicate (n - args.length) undef).map (conc ρ)).toArray := by
        rw [List.map_append, List.map_replicate, conc_undef]
        simp
      have e2 : ((args.map (conc ρ)).toArray ++ Array.replicate (n - (args.map (conc ρ)).toArray.size) undef)[i]? = some (conc ρ v) := by
        rw [List.size_toArray, List.length_map, e1]
        simp only [List.getElem?_toArray, List.getElem?_map, hv]
        rfl
      simpa using e2
    · rcases List.mem_append.1 hv' with hv' | hv'
      · exact hargs v hv'
      · rw [List.eq_of_mem_replicate hv']
        exact fun u hu => by cases hu
theorem memAt_dead {w : World} {ρ : List Nat} (hlt : ∀ b ∈ ρ, b < w.heap.size) : MemAt ⟨w, []⟩ ρ (ρ.map fun _ => ([], none)) w := by
  have hk : ∀ (k : Nat) (cs : List Value) (kd : Option Nat), (ρ.map fun _ => (([], none) : Blk))[k]? = some (cs, kd) → cs = [] ∧ kd = none := fun k cs kd h => by
    rw [List.getElem?_map] at h
    cases hr : ρ[k]? with
    | none => rw [hr] at h; cases h
    | some x => rw [hr] at h; cases h; exact ⟨rfl, rfl⟩
  exact ⟨rfl, rfl, rfl, Nat.le_refl _, by simp, hlt, fun i j cs t hi => (by cases (hk i cs _ hi).2), fun _ _ _ => rfl, fun k cs t hi => (by cases (hk k cs _ hi).2), fun k cs t hi => (by cases (hk k cs _ hi).2), fun k cs hi hne => absurd (hk k cs _ hi).1 hne⟩
theorem list_move_call {P : Program} {ops : Array Oper} {Q : Exit → Act → World → Prop} {o1 o2 : Oper} {a : Act} {w : World} {x d1 d2 f : Nat} {ts : Array Nat} {v : Value}
    (h1 : o1.op = .move (.tmp x)) (h2 : o1.dst = some d1) (h3 : o1.guard = none) (h4 : o2.op = .call { callee := .value (.func f), args := #[.tmp d1], argTypes := ts }) (h5 : o2.dst = some d2) (h6 : o2.guard = none)
    (he : Enters P f) (hd : d1 < a.tmps.size) (hv : a.eval (.tmp x) = v) (hc : Calls P f #[v] w fun e w' => ∃ u, e = .returned u ∧ Q .normal ((a.put (some d1) v).put (some d2) u) w') : wpList P ops Q [o1, o2] a w := by
  unfold wpList
  have hw : ∀ (o : Oper) y, o.guard = none → Region.wanted o y = true := fun o y h => by simp [Region.wanted, h]
  rw [if_pos (hw o1 _ h3)]
  refine .inl ?_
  unfold Oper.wp
  have e1 : (execOp a.eval o1).run P w = .ok (.value v) w := by
    unfold execOp; rw [h1]; simp [Sem.run_pure, hv]
  rw [e1]
  show wpList P ops Q [o2] (a.put o1.dst v) w
  rw [h2]
  unfold wpList
  rw [if_pos (hw o2 _ h6)]
  refine .inl ?_
  unfold Oper.wp
  have ev : (a.put (some d1) v).eval (.tmp d1) = v := by
    simp [Act.eval, Act.put, Array.getD_eq_getD_getElem?, Array.getElem?_setIfInBounds, hd]
  have e2 : (execOp (a.put (some d1) v).eval o2).run P w = .ok (.enter f #[v]) w := by
    have ef : (a.put (some d1) v).eval (.func f) = .func (.func f) #[] #[] := rfl
    have ea : #[Operand.tmp d1].map (a.put (some d1) v).eval = #[v] := by simp only [List.map_toArray, List.map_cons, List.map_nil, ev]
    simp only [execOp, h4, resolve, ef, ea, Deferred.ofValue, Sem.run_bind, Sem.run_pure, Result.andThen_ok, invoke]
    rw [show (#[] ++ #[v] ++ #[] : Array Value) = #[v] by simp]
    exact he.run _ w
  rw [e2]
  show Calls P f #[v] w _
  rw [h5]
  refine Calls.mono hc fun e w' ⟨u, he, hq⟩ => ?_
  subst he
  exact hq

def KeepC (b B : Nat) (W W' : World) : Prop := ∀ x, x = b ∨ x = B → ∀ i v, W.cell? ⟨x, i, none⟩ = some v → W'.cell? ⟨x, i, none⟩ = some v
theorem keepC_refl (b B : Nat) (W : World) : KeepC b B W W := fun _ _ _ _ h => h
theorem keepC_t {b B : Nat} {A C D : World} (h : KeepC b B A C) (k : KeepC b B C D) : KeepC b B A D := fun x hx i v hv => k x hx i v (h x hx i v hv)
theorem keepC_put {b B : Nat} (W : World) (l : Nat) (o o' : Obj) (ho : W.heap[l]? = some o) (hc : o.isCells = false) : KeepC b B W (W.putObj l o') := fun x _ i v hv =>
  cell_kept hv (grownBy_putObj' W l o') (fun r e => by cases e; exact ⟨o, ho, hc⟩)
def bPt (zs : List (Int × Int)) (k : Nat) : Nat × (Int × Int) := (zs.length - 1 - k, zs.getD (zs.length - 1 - k) (0, 0))
def uptoL {α : Type} (f : Nat → α) (k : Nat) : List α := (List.range k).map f
theorem uptoL_succ {α : Type} (f : Nat → α) (k : Nat) : uptoL f (k + 1) = uptoL f k ++ [f k] := by simp [uptoL, List.range_succ]
theorem uptoL_length {α : Type} (f : Nat → α) (k : Nat) : (uptoL f k).length = k := by simp [uptoL]
theorem uptoL_snd (zs : List (Int × Int)) {k : Nat} (hk : k ≤ zs.length) : (uptoL (bPt zs) k).map Prod.snd = zs.reverse.take k := by
  apply List.ext_getElem
  · simp [uptoL, hk]
  · intro i h1 h2
    have hi : i < k := by simpa [uptoL] using h1
    simp only [uptoL, bPt, List.map_map, List.getElem_map, List.getElem_range, Function.comp, List.getElem_take, List.getElem_reverse]
    simp [List.getD, List.getElem?_eq_getElem (show zs.length - 1 - i < zs.length by omega)]

end Go.Ev
