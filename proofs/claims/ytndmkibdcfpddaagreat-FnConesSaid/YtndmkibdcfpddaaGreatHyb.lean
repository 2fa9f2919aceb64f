/-
  Pieces of code by the evaluator, operations on a map by hand: what joins them.
  Conditions: none.
-/
import Derived.Test.YtndmkibdcfpddaaGreatCut
import Derived.Test.YtndmkibdcfpddaaGreatRng
set_option linter.unusedVariables false
set_option linter.unusedSimpArgs false
namespace Go.Ev
open Go.RowKit

section
variable {P : Program} {T : Tbl}
theorem evOps_pre (hT : T.Ok P) {ops : List Oper} : ∀ (l l2 : List Oper) {tm : List Value} {mem : Mem} {K : List Value → Mem → Prop}, evOps P T ops l tm mem K →
    ∀ {w0 : Base} {ρ : List Nat} {w : World} {a : Act}, TmAt ρ tm a → MemAt w0 ρ mem w → ∀ {Q : Exit → Act → World → Prop},
    (∀ σ tm' mem' a' w', K tm' mem' → TmAt (ρ ++ σ) tm' a' → MemAt w0 (ρ ++ σ) mem' w' → wpList P ops.toArray Q l2 a' w') → wpList P ops.toArray Q (l ++ l2) a w
  | [], l2, tm, mem, K, h, w0, ρ, w, a, ha, hm, Q, hQ => by
    exact hQ [] tm mem a w h (by rw [List.append_nil]; exact ha) (by rw [List.append_nil]; exact hm)
  | o :: l, l2, tm, mem, K, h, w0, ρ, w, a, ha, hm, Q, hQ => by
    have h : guardK ops o tm (evOper P T o tm mem fun tm' mem' => evOps P T ops l tm' mem' K) (putK o.dst undef tm fun tm' => evOps P T ops l tm' mem K) := h
    rw [List.cons_append]
    rcases guardK_spec h with ⟨h, hw⟩ | ⟨h, hw⟩
    · unfold wpList
      rw [hw ρ a ha]
      simp only [if_true]
      refine .inl (evOper_sound hT o h ha hm fun σ tm' mem' a' w' hk ha' hm' => ?_)
      refine evOps_pre hT l l2 hk ha' hm' fun σ' tm'' mem'' a'' w'' hk' ha'' hm'' => ?_
      rw [List.append_assoc] at ha'' hm''
      exact hQ (σ ++ σ') _ _ _ _ hk' ha'' hm''
    · unfold wpList
      rw [hw ρ a ha]
      simp only [Bool.false_eq_true, if_false]
      rw [putK_eq] at h
      exact evOps_pre hT l l2 h (ha.put o.dst (v := undef) (fun v hv => by cases hv)) hm hQ

theorem loop_inv {x : Code} {Q : Exit → Act → World → Prop} {I : Nat → Act → World → Prop}
    (hr : ∀ n a w, I n a w → x.wp P (fun e a' w' => match e with | .normal => ∃ m, m < n ∧ I m a' w' | e => Q e a' w') a w) {n : Nat} {a : Act} {w : World} (h : I n a w) : (Code.loop x).wp P Q a w := by
  refine wp_loop_rounds (n + 1) ?_
  have key : ∀ k n a w, n < k → I n a w → Code.rounds P x Q k a w := by
    intro k
    induction k with
    | zero => intro n a w hk; omega
    | succ k ih =>
      intro n a w hk hI
      rw [rounds_succ]
      refine wp_mono (hr n a w hI) fun e a' w' h => ?_
      cases e with
      | normal =>
        obtain ⟨m, hm, h⟩ := h
        exact ih m a' w' (by omega) h
      | _ => exact h
  exact key (n + 1) n a w (by omega) h

theorem map_out {w0 : Base} {ρ : List Nat} {mem : Mem} {W : World} (h : MemAt w0 ρ mem W) (ho : ownAll mem = true) {M : Nat} {es : Array MapEntry} {cl : Nat} (hM : W.heap[M]? = some (.map es cl)) : M ∉ ρ := fun hm => by
  obtain ⟨_, cs, t, h2⟩ := h.at_own ho hm
  rw [hM] at h2; cases h2
theorem frag (hT : T.Ok P) (hmix : P.follows .mixedOrders = true) {m0 : Nat} (c : Code) {tm : List Value} {mem : Mem} {K : Post} (h : ev P T m0 c tm mem K) (ho : ownAll mem = true) (hK : ∀ e tm' mem', K e tm' mem' → ownAll mem' = true)
    {w0 : Base} {ρ0 σ : List Nat} (hρ : ρ0.length = m0) {w : World} {a : Act} (ha : TmAt (ρ0 ++ σ) tm a) (hm : MemAt w0 (ρ0 ++ σ) mem w) {M : Nat} {es : Array MapEntry} {cl : Nat} (hM : w.heap[M]? = some (.map es cl)) {Q : Exit → Act → World → Prop}
    (hQ : ∀ e σ tm' mem' a' w', K e tm' mem' → TmAt (ρ0 ++ σ) tm' a' → MemAt w0 (ρ0 ++ σ) mem' w' → w'.heap[M]? = some (.map es cl) → Q e a' w') : c.wp P Q a w := by
  have hMl := (Array.getElem?_eq_some_iff.1 hM).1
  have hMn := map_out hm ho hM
  refine ev_sound hT hmix hρ c h ha (hm.rebase ho) fun e σ' tm' mem' a' w' hk ha' hm' => ?_
  have hoth := hm.others ho hm'
  exact hQ e σ' tm' mem' a' w' hk ha' (hm.unbase ho hm' (hK _ _ _ hk)) ((hoth.2 M hMl hMn).trans hM)
theorem fragOps (hT : T.Ok P) {ops : List Oper} (l l2 : List Oper) {tm : List Value} {mem : Mem} {K : List Value → Mem → Prop} (h : evOps P T ops l tm mem K) (ho : ownAll mem = true) (hK : ∀ tm' mem', K tm' mem' → ownAll mem' = true)
    {w0 : Base} {ρ : List Nat} {w : World} {a : Act} (ha : TmAt ρ tm a) (hm : MemAt w0 ρ mem w) {M : Nat} {es : Array MapEntry} {cl : Nat} (hM : w.heap[M]? = some (.map es cl)) {Q : Exit → Act → World → Prop}
    (hQ : ∀ σ tm' mem' a' w', K tm' mem' → TmAt (ρ ++ σ) tm' a' → MemAt w0 (ρ ++ σ) mem' w' → w'.heap[M]? = some (.map es cl) → wpList P ops.toArray Q l2 a' w') : wpList P ops.toArray Q (l ++ l2) a w := by
  have hMl := (Array.getElem?_eq_some_iff.1 hM).1
  have hMn := map_out hm ho hM
  refine evOps_pre hT l l2 h ha (hm.rebase ho) fun σ' tm' mem' a' w' hk ha' hm' => ?_
  have hoth := hm.others ho hm'
  exact hQ σ' tm' mem' a' w' hk ha' (hm.unbase ho hm' (hK _ _ hk)) ((hoth.2 M hMl hMn).trans hM)
theorem fragOp (hT : T.Ok P) {ops : List Oper} {i : Nat} {tm : List Value} {mem : Mem} {K : List Value → Mem → Prop} {f : Nat} {listed : Array Bool} (h : opAtK ops i fun o => evOps P T ops [o] tm mem K) (ho : ownAll mem = true) (hK : ∀ tm' mem', K tm' mem' → ownAll mem' = true)
    {w0 : Base} {ρ : List Nat} {w : World} {a : Act} (ha : TmAt ρ tm a) (hm : MemAt w0 ρ mem w) {M : Nat} {es : Array MapEntry} {cl : Nat} (hM : w.heap[M]? = some (.map es cl)) {Q : Exit → Act → World → Prop}
    (hn : ∀ σ tm' mem' a' w', K tm' mem' → TmAt (ρ ++ σ) tm' a' → MemAt w0 (ρ ++ σ) mem' w' → w'.heap[M]? = some (.map es cl) → wpAny P .any ops.toArray (noPan Q) f (listed.setIfInBounds i true) a' w') :
    wpOp P ops.toArray (noPan Q) i (wpAny P .any ops.toArray (noPan Q) f (listed.setIfInBounds i true)) a w := by
  have hMl := (Array.getElem?_eq_some_iff.1 hM).1
  have hMn := map_out hm ho hM
  refine pt_op hT h ha (hm.rebase ho) fun σ' tm' mem' a' w' hk ha' hm' => ?_
  have hoth := hm.others ho hm'
  exact hn σ' tm' mem' a' w' hk ha' (hm.unbase ho hm' (hK _ _ hk)) ((hoth.2 M hMl hMn).trans hM)
theorem fragCut (hT : T.Ok P) (hmix : P.follows .mixedOrders = true) {m0 : Nat} (n : Nat) (c : Code) {tm : List Value} {mem : Mem} {K : Post} (h : evCut P T m0 n c tm mem K) (ho : ownAll mem = true) (hK : ∀ e tm' mem', K e tm' mem' → ownAll mem' = true)
    {w0 : Base} {ρ0 σ : List Nat} (hρ : ρ0.length = m0) {w : World} {a : Act} (ha : TmAt (ρ0 ++ σ) tm a) (hm : MemAt w0 (ρ0 ++ σ) mem w) {M : Nat} {es : Array MapEntry} {cl : Nat} (hM : w.heap[M]? = some (.map es cl)) {Q : Exit → Act → World → Prop}
    (hN : ∀ σ tm' mem' a' w', K .normal tm' mem' → TmAt (ρ0 ++ σ) tm' a' → MemAt w0 (ρ0 ++ σ) mem' w' → w'.heap[M]? = some (.map es cl) → (tlC n c).wp P Q a' w')
    (hQ : ∀ e σ tm' mem' a' w', e ≠ .normal → K e tm' mem' → TmAt (ρ0 ++ σ) tm' a' → MemAt w0 (ρ0 ++ σ) mem' w' → w'.heap[M]? = some (.map es cl) → Q e a' w') : c.wp P Q a w := by
  have hMl := (Array.getElem?_eq_some_iff.1 hM).1
  have hMn := map_out hm ho hM
  refine evCut_sound hT hmix hρ n c h ha (hm.rebase ho) (fun σ' tm' mem' a' w' hk ha' hm' => ?_) (fun e σ' tm' mem' a' w' hne hk ha' hm' => ?_)
  · have hoth := hm.others ho hm'
    exact hN σ' tm' mem' a' w' hk ha' (hm.unbase ho hm' (hK _ _ _ hk)) ((hoth.2 M hMl hMn).trans hM)
  · have hoth := hm.others ho hm'
    exact hQ e σ' tm' mem' a' w' hne hk ha' (hm.unbase ho hm' (hK _ _ _ hk)) ((hoth.2 M hMl hMn).trans hM)
end
def gL : Code → Code
  | .seq a _ => a
  | c => c
def gR : Code → Code
  | .seq _ b => b
  | c => c
def gB : Code → Code
  | .block _ b => b
  | c => c
def gLp : Code → Code
  | .loop b => b
  | c => c
def gT : Code → Code
  | .cond _ a _ => a
  | c => c
def gO : Code → List Oper
  | .region _ ops _ => ops.toList
  | _ => []
end Go.Ev
