/-
  Contracts of functions of the program (printed by a program of this work; Lean checks each).
  Conditions: as each contract states.
-/
import Derived.Test.YtlkbfpklhncfbaaK70
import Derived.Test.YtlkbfpklhncfbaaEvMake
import Derived.RangeFuncNested
import Derived.RangeFuncBound
import Derived.RangeFuncCalls
import Derived.RangeFuncLeaves
import Derived.RangeFuncBox
import Derived.Shelf.Abstract
import Derived.Shelf.RegionOpen
import Derived.WalkKit
import Derived.OwnWalkIn
import Derived.TacticsInMore
import Derived.LoopNIn
import Derived.LoopIn
import Derived.Lib.Builder
namespace Go.Proofs.Ytlkbfpklhncfbaa
open Go.Ev Go.RowKit
open Go.Shelf
set_option maxRecDepth 100000
set_option linter.unusedVariables false
set_option linter.unusedSimpArgs false

attribute [local go_sem] Oper.semAt_some

def bAt (zs : List Int) (k : Nat) : Nat × Int := (zs.length - 1 - k, zs.getD (zs.length - 1 - k) 0)
def upto {α : Type} (f : Nat → α) (k : Nat) : List α := (List.range k).map f
theorem upto_succ {α : Type} (f : Nat → α) (k : Nat) : upto f (k + 1) = upto f k ++ [f k] := by simp [upto, List.range_succ]
theorem upto_length {α : Type} (f : Nat → α) (k : Nat) : (upto f k).length = k := by simp [upto]

/-- What a round that goes on keeps: what lay below n₀, and the cell B. -/
def KeepB (n₀ B : Nat) (W W' : World) : Prop := Below n₀ W W' ∧ ∀ v, W.cell? ⟨B, 0, none⟩ = some v → W'.cell? ⟨B, 0, none⟩ = some v
theorem keepB_refl (n₀ B : Nat) (W : World) : KeepB n₀ B W W := ⟨Below.refl _ _, fun _ h => h⟩
theorem keepB_t {n₀ B : Nat} {A C D : World} (h : KeepB n₀ B A C) (k : KeepB n₀ B C D) : KeepB n₀ B A D := ⟨h.1.trans k.1, fun v hv => k.2 v (h.2 v hv)⟩

set_option maxRecDepth 100000 in
set_option maxHeartbeats 2000000 in
theorem back1_in (F : Fence) (n : Nat) (h8 : F.fn 109) (hro : F.round = none) (hn : 1 ≤ n) (l Bs n₀ b cap : Nat) (zs : List Int) (hreach : zs.length ≤ 1048576) (hb : b < n₀) (J Jx : List (Nat × Int) → World → Prop)
    (hY : ∀ pre x W, J pre W → pre.length < zs.length → YieldAt F (n - 1) Try.prog l #[.int .i64 (x.1 : Int), .int .i64 x.2] W fun e W' =>
      (e = .returned (.bool true) ∧ J (pre ++ [x]) W' ∧ KeepB n₀ Bs W W') ∨ (e = .returned (.bool false) ∧ Jx (pre ++ [x]) W'))
    (W : World) (hBs : W.cell? ⟨Bs, 0, none⟩ = some (.slice (some ⟨b, 0, none⟩) zs.length cap)) (hc : ∀ j, j < zs.length → W.cell? ⟨b, j, none⟩ = some (.int .i64 (zs.getD j 0))) (h0 : J [] W) :
    CallsIn F n Try.prog 109 #[.func (.yield l) #[] #[], .pointer (some ⟨Bs, 0, none⟩)] W fun e W' => (∃ v, e = .returned v) ∧
      ((∃ ys, ys = upto (bAt zs) zs.length ∧ J ys W') ∨ (∃ pre, (∃ k, k ≤ zs.length ∧ pre = upto (bAt zs) k) ∧ Jx pre W')) := by
  refine callsIn_of_wp Try.func109 rfl h8 ?_ hro
  simp only [Try.ntmps109, List.size_toArray, List.length_cons, List.length_nil, Nat.reduceAdd, Nat.reduceSub, Array.replicate_succ, Array.replicate_zero, List.push_toArray, List.append_toArray, List.nil_append, List.cons_append]
  gi_wp2
  gi_loopw [3] (fun i wr => ∃ k : Nat, k ≤ zs.length ∧ i = .int .i64 ((zs.length : Int) - 1 - k) ∧ J (upto (bAt zs) k) wr ∧ KeepB n₀ Bs W wr)
    (fun i _ => (intOf i + 1).toNat)
  case atStart => exact ⟨0, Nat.zero_le _, by simp, h0, keepB_refl _ _ _⟩
  case round =>
    obtain ⟨k, hk, rfl, hJs, hnx⟩ := hrel
    by_cases hlt : k < zs.length
    · obtain ⟨m, hm⟩ : ∃ m, m + k + 1 = zs.length := ⟨zs.length - 1 - k, by omega⟩
      have hi : (zs.length : Int) - 1 - k = (m : Int) := by omega
      have hbs := hnx.2 _ hBs
      have hcx' : wr.cell? ⟨b, m, none⟩ = some (.int .i64 (zs.getD m 0)) := (hnx.1.cell (p := ⟨b, m, none⟩) hb).trans (hc m (by omega))
      obtain ⟨fn, tmps, assign, body, hy, hR⟩ := hY _ (bAt zs k) wr hJs (by rw [upto_length]; exact hlt)
      have hbk : bAt zs k = (m, zs.getD m 0) := by unfold bAt; rw [show zs.length - 1 - k = m by omega]
      rw [hbk] at hy hR
      dsimp only at hy
      rw [hi]
      generalize hz : zs.getD m 0 = zv at hcx' hy hR hbk
      have hml : m < zs.length := by omega
      clear hz hi
      gi_wp2
      refine hR.mono ?_
      rintro e W3 (⟨rfl, hJ3, hk3⟩ | ⟨rfl, hJx3⟩)
      · gi_wp2
        go_roundw
        case rel =>
          refine ⟨k + 1, by omega, ?_, by rw [upto_succ, hbk]; exact hJ3, keepB_t hnx hk3⟩
          congr 1; omega
        case measure => simp [intOf]
      · gi_wp2
        refine bodyPost_ret (results_none rfl _ _ _) rfl ?_
        exact ⟨⟨_, rfl⟩, .inr ⟨_, ⟨k + 1, by omega, by rw [upto_succ, hbk]⟩, hJx3⟩⟩
    · obtain rfl : k = zs.length := by omega
      rw [show (zs.length : Int) - 1 - zs.length = -1 by omega]
      gi_wp2
      go_end0
      exact ⟨⟨_, rfl⟩, .inl ⟨_, rfl, hJs⟩⟩

set_option maxRecDepth 100000 in
set_option maxHeartbeats 1000000 in
theorem back_in (F : Fence) (n : Nat) (h6 : F.fn 97) (hro : F.round = none) (a : Option Addr) (len cap : Nat) (w : World) :
    CallsIn F n Try.prog 97 #[.slice a len cap] w fun e w' => e = .returned (.func (.func 109) #[] #[.pointer (some ⟨w.heap.size, 0, none⟩)]) ∧ w' = w.alloc (.cells #[.slice a len cap] 36) := by
  refine callsIn_of_wp Try.func97 rfl h6 ?_ hro
  simp only [Try.ntmps97, List.size_toArray, List.length_cons, List.length_nil, Nat.reduceAdd, Nat.reduceSub, Array.replicate_succ, Array.replicate_zero, List.push_toArray, List.append_toArray, List.nil_append, List.cons_append]
  gi_wp2
  go_ret
  exact ⟨rfl, rfl⟩

theorem back_stops (F : Fence) (n : Nat) (h8 : F.fn 109) (hro : F.round = none) (hn : 1 ≤ n) (Bs n₀ b cap : Nat) (zs : List Int) (hreach : zs.length ≤ 1048576) (w : World) (hBs : Bs < w.heap.size) (hn₀ : n₀ ≤ w.heap.size) (hb : b < n₀)
    (hc : w.cell? ⟨Bs, 0, none⟩ = some (.slice (some ⟨b, 0, none⟩) zs.length cap)) (hI : ∀ j, j < zs.length → w.cell? ⟨b, j, none⟩ = some (.int .i64 (zs.getD j 0))) :
    SeqStopsK F n Try.prog 109 #[.pointer (some ⟨Bs, 0, none⟩)] (fun x : Nat × Int => #[Value.int .i64 (x.1 : Int), Value.int .i64 x.2]) (KeepB n₀ Bs) (fun ys => ys = upto (bAt zs) zs.length)
      (fun pre => ∃ k, k ≤ zs.length ∧ pre = upto (bAt zs) k) zs.length w := fun l J Jx W hW _ _ hY h0 =>
  back1_in F n h8 hro hn l Bs n₀ b cap zs hreach hb J Jx hY W ((hW.cell (p := ⟨Bs, 0, none⟩) hBs).trans hc) (fun j hj => (hW.cell (p := ⟨b, j, none⟩) (Nat.lt_of_lt_of_le hb hn₀)).trans (hI j hj)) h0


def okCo (x : Int) : Bool := decide (-1000000 ≤ x) && decide (x ≤ 1000000)
theorem in_w (x : Int) (w : World) : Calls Try.prog 42 #[.int .i64 x, .int .i64 (-1000000), .int .i64 1000000] w fun e w' => e = .returned (.bool (okCo x)) ∧ w' = w := by
  go_enter Try.func42, Try.ntmps42
  go_wp2
  · rename_i h1
    go_ret
    exact ⟨by unfold okCo; rw [decide_eq_true h1, Bool.true_and]; rfl, rfl⟩
  · rename_i h1
    go_ret
    exact ⟨by unfold okCo; rw [decide_eq_false (by omega), Bool.false_and]; rfl, rfl⟩
theorem co_w (x : Int) (w : World) : Calls Try.prog 62 #[.int .i64 x] w fun e w' => e = .returned (.bool (okCo x)) ∧ w' = w := by
  have hin := in_w x
  generalize okCo x = r at hin ⊢
  go_enter Try.func62, Try.ntmps62
  go_wp2_with (go_at_call 42; refine (hin _).mono ?_; rintro e w' ⟨rfl, rfl⟩)
  go_ret
  exact ⟨rfl, rfl⟩


/-- The fold p, q = c p + q, p, as long as p is a coordinate. -/
def ogo : List Int → Int → Int → Option (Int × Int)
  | [], p, q => some (p, q)
  | c :: cs, p, q => if okCo (wrap64 (wrap64 (c * p) + q)) = true then ogo cs (wrap64 (wrap64 (c * p) + q)) p else none
theorem ogo_app : ∀ (vs ws : List Int) (p q : Int), ogo (vs ++ ws) p q = (ogo vs p q).bind fun s => ogo ws s.1 s.2
  | [], ws, p, q => rfl
  | c :: vs, ws, p, q => by
    rw [List.cons_append, ogo, ogo]
    split
    · exact ogo_app vs ws _ _
    · rfl
def ofV (zs : List Int) : Value := match ogo zs.reverse 1 0 with
  | none => .tuple #[.agg #[.int .i64 0, .int .i64 0, .int .i64 0, .int .i64 0], .int .i64 3]
  | some (p, q) => if p = 0 then .tuple #[.agg #[.int .i64 0, .int .i64 0, .int .i64 0, .int .i64 0], .int .i64 5] else .tuple #[.agg #[.int .i64 1, .int .i64 0, .int .i64 q, .int .i64 p], .int .i64 0]
theorem upto_snd (zs : List Int) {k : Nat} (hk : k ≤ zs.length) : (upto (bAt zs) k).map Prod.snd = zs.reverse.take k := by
  apply List.ext_getElem
  · simp [upto, hk]
  · intro i h1 h2
    have hi : i < k := by simpa [upto] using h1
    simp only [upto, bAt, List.map_map, List.getElem_map, List.getElem_range, Function.comp, List.getElem_take, List.getElem_reverse]
    simp [List.getD, List.getElem?_eq_getElem (show zs.length - 1 - i < zs.length by omega)]
def corn (a b c d : Int) : Value := .agg #[.int .i64 a, .int .i64 b, .int .i64 c, .int .i64 d]
/-- The four variables: the results, p and q. -/
structure OfAt (B : Nat) (p q : Int) (W : World) : Prop where
  r : W.heap[B]? = some (.cells #[.int .i64 0, .int .i64 0, .int .i64 0, .int .i64 0] 41 (0, 0))
  e : W.heap[B + 1]? = some (.cells #[.int .i64 0] 2 (0, 0))
  p : W.heap[B + 2]? = some (.cells #[.int .i64 p] 2 (0, 0))
  q : W.heap[B + 3]? = some (.cells #[.int .i64 q] 2 (0, 0))
theorem OfAt.keep {B : Nat} {p q : Int} {A W : World} {row : Option Nat} (h : OfAt B p q A) (hg : A.grownBy W row) (hr : ∀ r, row = some r → ∃ o : Obj, A.heap[r]? = some o ∧ o.isCells = false) : OfAt B p q W :=
  ⟨(grownBy_keeps_cells hg hr h.r rfl).trans h.r, (grownBy_keeps_cells hg hr h.e rfl).trans h.e, (grownBy_keeps_cells hg hr h.p rfl).trans h.p, (grownBy_keeps_cells hg hr h.q rfl).trans h.q⟩
theorem heap_set_same {W : World} {b t i : Nat} {cs : Array Value} {v : Value} (h : W.heap[b]? = some (.cells cs t (0, 0))) : (W.setCell ⟨b, i, none⟩ v).heap[b]? = some (.cells (cs.setIfInBounds i v) t (0, 0)) := by
  rw [Go.Ev.setCell_upd h, Go.Ev.upd_heap (Array.getElem?_eq_some_iff.1 h).1, if_pos rfl]
theorem heap_set_other {W : World} {b k i : Nat} {v : Value} (h : k ≠ b) : (W.setCell ⟨b, i, none⟩ v).heap[k]? = W.heap[k]? := Below.heap_setCell W ⟨b, i, none⟩ v k h
theorem OfAt.step {B : Nat} {p q : Int} {W : World} (h : OfAt B p q W) (p' q' : Int) : OfAt B p' q' ((W.setCell ⟨B + 2, 0, none⟩ (.int .i64 p')).setCell ⟨B + 3, 0, none⟩ (.int .i64 q')) := by
  have hp := heap_set_same (i := 0) (v := .int .i64 p') h.p
  have hq : (W.setCell ⟨B + 2, 0, none⟩ (.int .i64 p')).heap[B + 3]? = some (.cells #[.int .i64 q] 2 (0, 0)) := (heap_set_other (by omega)).trans h.q
  refine ⟨?_, ?_, ?_, heap_set_same hq⟩
  · rw [heap_set_other (by omega), heap_set_other (by omega)]; exact h.r
  · rw [heap_set_other (by omega), heap_set_other (by omega)]; exact h.e
  · rw [heap_set_other (by omega)]; exact hp


abbrev z1 : Obj := .cells #[.int .i64 0] 2
def ofW (w : World) (s : Value) : World := ((((w.alloc (.cells #[.int .i64 0, .int .i64 0, .int .i64 0, .int .i64 0] 41)).alloc (.cells #[.int .i64 0] 2)).alloc (.cells #[.int .i64 1] 2)).alloc (.cells #[.int .i64 0] 2)).alloc (.cells #[s] 36)
theorem ofW_size (w : World) (s : Value) : (ofW w s).heap.size = w.heap.size + 5 := by simp [ofW]
theorem ofW_below (w : World) (s : Value) : Below w.heap.size w (ofW w s) :=
  (((((Below.refl _ w).alloc (Nat.le_refl _) _).alloc (by simp) _).alloc (by simp <;> omega) _).alloc (by simp <;> omega) _).alloc (by simp <;> omega) _
theorem ofW_at (w : World) (s : Value) : OfAt w.heap.size 1 0 (ofW w s) ∧ (ofW w s).heap[w.heap.size + 4]? = some (.cells #[s] 36 (0, 0)) := by
  unfold ofW
  refine ⟨⟨?_, ?_, ?_, ?_⟩, ?_⟩
  · rw [Below.heap_alloc _ _ _ (by simp <;> omega), Below.heap_alloc _ _ _ (by simp <;> omega), Below.heap_alloc _ _ _ (by simp <;> omega), Below.heap_alloc _ _ _ (by simp)]
    exact World.alloc_heap_new w _
  · rw [Below.heap_alloc _ _ _ (by simp <;> omega), Below.heap_alloc _ _ _ (by simp <;> omega), Below.heap_alloc _ _ _ (by simp)]
    have := World.alloc_heap_new (w.alloc (.cells #[.int .i64 0, .int .i64 0, .int .i64 0, .int .i64 0] 41)) (.cells #[.int .i64 0] 2)
    rwa [World.size_alloc] at this
  · rw [Below.heap_alloc _ _ _ (by simp <;> omega), Below.heap_alloc _ _ _ (by simp)]
    have := World.alloc_heap_new ((w.alloc (.cells #[.int .i64 0, .int .i64 0, .int .i64 0, .int .i64 0] 41)).alloc (.cells #[.int .i64 0] 2)) (.cells #[.int .i64 1] 2)
    rwa [World.size_alloc, World.size_alloc] at this
  · rw [Below.heap_alloc _ _ _ (by simp)]
    have := World.alloc_heap_new (((w.alloc (.cells #[.int .i64 0, .int .i64 0, .int .i64 0, .int .i64 0] 41)).alloc (.cells #[.int .i64 0] 2)).alloc (.cells #[.int .i64 1] 2)) (.cells #[.int .i64 0] 2)
    rwa [World.size_alloc, World.size_alloc, World.size_alloc] at this
  · have := World.alloc_heap_new ((((w.alloc (.cells #[.int .i64 0, .int .i64 0, .int .i64 0, .int .i64 0] 41)).alloc (.cells #[.int .i64 0] 2)).alloc (.cells #[.int .i64 1] 2)).alloc (.cells #[.int .i64 0] 2)) (.cells #[s] 36)
    rwa [World.size_alloc, World.size_alloc, World.size_alloc, World.size_alloc] at this

theorem keepB_b {n₀ B : Nat} {w : World} (hn : n₀ ≤ w.heap.size) (W : World) (l : Nat) (o o' : Obj) (hl : w.heap.size ≤ l) (ho : W.heap[l]? = some o) (hc : o.isCells = false) (hw : o.isWalk = false) : KeepB n₀ B W (W.putObj l o') :=
  ⟨belowK_b hn W l o o' hl ho hc hw, fun v hv => cell_kept hv (grownBy_putObj' W l o') (fun r e => by cases e; exact ⟨o, ho, hc⟩)⟩

/-- The cells, as the walk reads them. -/
theorem OfAt.cells {B : Nat} {p q : Int} {W : World} (h : OfAt B p q W) : W.cell? ⟨B + 2, 0, none⟩ = some (.int .i64 p) ∧ W.frozen? ⟨B + 2, 0, none⟩ = false ∧ W.cell? ⟨B + 3, 0, none⟩ = some (.int .i64 q) ∧ W.frozen? ⟨B + 3, 0, none⟩ = false ∧
    W.cell? ⟨B + 1, 0, none⟩ = some (.int .i64 0) ∧ W.frozen? ⟨B + 1, 0, none⟩ = false ∧
    (W.cell? ⟨B, 0, none⟩ = some (.int .i64 0) ∧ W.frozen? ⟨B, 0, none⟩ = false) ∧ (W.cell? ⟨B, 1, none⟩ = some (.int .i64 0) ∧ W.frozen? ⟨B, 1, none⟩ = false) ∧
    (W.cell? ⟨B, 2, none⟩ = some (.int .i64 0) ∧ W.frozen? ⟨B, 2, none⟩ = false) ∧ (W.cell? ⟨B, 3, none⟩ = some (.int .i64 0) ∧ W.frozen? ⟨B, 3, none⟩ = false) :=
  ⟨by rw [Lib.cell_of_heap h.p]; rfl, Lib.frozen_of_heap h.p 0, by rw [Lib.cell_of_heap h.q]; rfl, Lib.frozen_of_heap h.q 0, by rw [Lib.cell_of_heap h.e]; rfl, Lib.frozen_of_heap h.e 0,
   ⟨by rw [Lib.cell_of_heap h.r]; rfl, Lib.frozen_of_heap h.r 0⟩, ⟨by rw [Lib.cell_of_heap h.r]; rfl, Lib.frozen_of_heap h.r 1⟩, ⟨by rw [Lib.cell_of_heap h.r]; rfl, Lib.frozen_of_heap h.r 2⟩, ⟨by rw [Lib.cell_of_heap h.r]; rfl, Lib.frozen_of_heap h.r 3⟩⟩

/-- What a world holds where the function returns. -/
structure OfRes (B : Nat) (a b c d e : Int) (W : World) : Prop where
  r : W.heap[B]? = some (.cells #[.int .i64 a, .int .i64 b, .int .i64 c, .int .i64 d] 41 (0, 0))
  e : W.heap[B + 1]? = some (.cells #[.int .i64 e] 2 (0, 0))
theorem OfRes.keep {B : Nat} {a b c d e : Int} {A W : World} {row : Option Nat} (h : OfRes B a b c d e A) (hg : A.grownBy W row) (hr : ∀ r, row = some r → ∃ o : Obj, A.heap[r]? = some o ∧ o.isCells = false) : OfRes B a b c d e W :=
  ⟨(grownBy_keeps_cells hg hr h.r rfl).trans h.r, (grownBy_keeps_cells hg hr h.e rfl).trans h.e⟩
/-- The result set: four cells and one. -/
theorem OfAt.res {B : Nat} {p q : Int} {W : World} (h : OfAt B p q W) (a b c d e : Int) :
    OfRes B a b c d e (((((W.setCell ⟨B, 0, none⟩ (.int .i64 a)).setCell ⟨B, 1, none⟩ (.int .i64 b)).setCell ⟨B, 2, none⟩ (.int .i64 c)).setCell ⟨B, 3, none⟩ (.int .i64 d)).setCell ⟨B + 1, 0, none⟩ (.int .i64 e)) := by
  have h1 := heap_set_same (i := 0) (v := .int .i64 a) h.r
  have h2 := heap_set_same (i := 1) (v := .int .i64 b) h1
  have h3 := heap_set_same (i := 2) (v := .int .i64 c) h2
  have h4 := heap_set_same (i := 3) (v := .int .i64 d) h3
  have e4 : ((((W.setCell ⟨B, 0, none⟩ (.int .i64 a)).setCell ⟨B, 1, none⟩ (.int .i64 b)).setCell ⟨B, 2, none⟩ (.int .i64 c)).setCell ⟨B, 3, none⟩ (.int .i64 d)).heap[B + 1]? = some (.cells #[.int .i64 0] 2 (0, 0)) := by
    rw [heap_set_other (by omega), heap_set_other (by omega), heap_set_other (by omega), heap_set_other (by omega)]; exact h.e
  refine ⟨?_, heap_set_same e4⟩
  rw [heap_set_other (by omega)]
  exact h4
theorem of_results {B : Nat} {a b c d e : Int} {W : World} (h : OfRes B a b c d e W) {tm : Array Value} (h2 : tm[2]?.getD undef = .pointer (some ⟨B, 0, none⟩)) (h3 : tm[3]?.getD undef = .pointer (some ⟨B + 1, 0, none⟩)) :
    (results Try.f64 tm).run Try.prog W = .ok (.tuple #[.agg #[.int .i64 a, .int .i64 b, .int .i64 c, .int .i64 d], .int .i64 e]) W := by
  have c0 : W.cell? ⟨B, 0, none⟩ = some (.int .i64 a) := by rw [Lib.cell_of_heap h.r]; rfl
  have c1 : W.cell? ⟨B, 1, none⟩ = some (.int .i64 b) := by rw [Lib.cell_of_heap h.r]; rfl
  have c2 : W.cell? ⟨B, 2, none⟩ = some (.int .i64 c) := by rw [Lib.cell_of_heap h.r]; rfl
  have c3 : W.cell? ⟨B, 3, none⟩ = some (.int .i64 d) := by rw [Lib.cell_of_heap h.r]; rfl
  have c4 : W.cell? ⟨B + 1, 0, none⟩ = some (.int .i64 e) := by rw [Lib.cell_of_heap h.e]; rfl
  simp [results, Try.f64, go_sem, h2, h3, c0, c1, c2, c3, c4]

theorem set5_keeps (W : World) (B : Nat) (a b c d e : Value) : KeepsOthers W (((((W.setCell ⟨B, 0, none⟩ a).setCell ⟨B, 1, none⟩ b).setCell ⟨B, 2, none⟩ c).setCell ⟨B, 3, none⟩ d).setCell ⟨B + 1, 0, none⟩ e) :=
  ((((KeepsOthers.setCell _ _ _).trans (KeepsOthers.setCell _ _ _)).trans (KeepsOthers.setCell _ _ _)).trans (KeepsOthers.setCell _ _ _)).trans (KeepsOthers.setCell _ _ _)
theorem set5_below {n₀ : Nat} {W0 W : World} (h : Below n₀ W0 W) {B : Nat} (hB : n₀ ≤ B) (a b c d e : Value) : Below n₀ W0 (((((W.setCell ⟨B, 0, none⟩ a).setCell ⟨B, 1, none⟩ b).setCell ⟨B, 2, none⟩ c).setCell ⟨B, 3, none⟩ d).setCell ⟨B + 1, 0, none⟩ e) :=
  ((((h.setCell (p := ⟨B, 0, none⟩) hB _).setCell (p := ⟨B, 1, none⟩) hB _).setCell (p := ⟨B, 2, none⟩) hB _).setCell (p := ⟨B, 3, none⟩) hB _).setCell (p := ⟨B + 1, 0, none⟩) (by show n₀ ≤ B + 1; omega) _

set_option maxRecDepth 100000 in
set_option maxHeartbeats 4000000 in
theorem ofList_w (ab cap : Nat) (zs : List Int) (hreach : zs.length ≤ 1048576) (w : World) (hb : ab < w.heap.size) (hI : ∀ j, j < zs.length → w.cell? ⟨ab, j, none⟩ = some (.int .i64 (zs.getD j 0))) :
    CallsIn Fence.wide 3 Try.prog 64 #[.slice (some ⟨ab, 0, none⟩) zs.length cap] w fun e W' => e = .returned (ofV zs) ∧ Below w.heap.size w W' := by
  have h1 : 1 ≤ 3 := by omega
  have hro : Fence.wide.round = none := rfl
  refine callsIn_of_wp_marks Try.func64 rfl trivial ?_ hro
  simp only [Try.ntmps64, List.size_toArray, List.length_cons, List.length_nil, Nat.reduceAdd, Nat.reduceSub, Array.replicate_succ, Array.replicate_zero, List.push_toArray, List.append_toArray, List.nil_append, List.cons_append]
  gi_wp2_with (refine ⟨trivial, ?_⟩; gi_at_call 97; refine (back_in Fence.wide 2 trivial rfl _ _ _ _).mono ?_; rintro e w' ⟨rfl, rfl⟩)
  obtain ⟨hat, hsl⟩ := ofW_at w (.slice (some ⟨ab, 0, none⟩) zs.length cap)
  have hbel := ofW_below w (.slice (some ⟨ab, 0, none⟩) zs.length cap)
  have hsz := ofW_size w (.slice (some ⟨ab, 0, none⟩) zs.length cap)
  refine wpIn_rangeFunc_ownF (w := ofW w (.slice (some ⟨ab, 0, none⟩) zs.length cap)) hro h1 (gf := 109) (lb := #[.pointer (some ⟨w.heap.size + 1 + 1 + 1 + 1, 0, none⟩)]) rfl trivial (enters_of Try.func109 (by kernel_rfl) rfl)
    (back_stops Fence.wide 2 trivial rfl (by omega) (w.heap.size + 4) w.heap.size ab cap zs hreach _ (by rw [hsz]; omega) (by rw [hsz]; omega) hb (by rw [Lib.cell_of_heap hsl]; rfl) (fun j hj => (hbel.cell (p := ⟨ab, j, none⟩) hb).trans (hI j hj)))
    keepB_t (keepB_b (by rw [hsz]; omega)) (Below.refl _ _) (fun _ => rfl)
    (fun pre W => (∃ p q, ogo (pre.map Prod.snd) 1 0 = some (p, q) ∧ OfAt w.heap.size p q W) ∧ Below w.heap.size w W)
    (fun c pre W => ((c = .ret ∧ ogo (pre.map Prod.snd) 1 0 = none) ∧ OfRes w.heap.size 0 0 0 0 3 W) ∧ Below w.heap.size w W)
    (OwnFrom.and (Own.from (fun s A B row hs hg hr => by obtain ⟨p, q, e1, e2⟩ := hs; exact ⟨p, q, e1, e2.keep hg hr⟩) _) (ownFrom_below (Nat.le_refl _) (by rw [hsz]; omega)))
    (fun c => OwnFrom.and (Own.from (fun s A B row hs hg hr => ⟨hs.1, hs.2.keep hg hr⟩) _) (ownFrom_below (Nat.le_refl _) (by rw [hsz]; omega)))
    ⟨⟨1, 0, rfl, hat⟩, hbel⟩
    (fun x => { tmps := #[.slice (some ⟨ab, 0, none⟩) zs.length cap, undef, .pointer (some ⟨w.heap.size, 0, none⟩), .pointer (some ⟨w.heap.size + 1, 0, none⟩), .pointer (some ⟨w.heap.size + 1 + 1, 0, none⟩), .pointer (some ⟨w.heap.size + 1 + 1 + 1, 0, none⟩), undef, .int .i64 x.2, .slice (some ⟨ab, 0, none⟩) zs.length cap, .func (.func 109) #[] #[.pointer (some ⟨w.heap.size + 1 + 1 + 1 + 1, 0, none⟩)], .int .i64 (x.1 : Int), .int .i64 x.2, undef, undef, undef, undef, undef, undef, undef, undef, undef, undef, undef, undef, undef, undef, undef, undef, undef, undef], defers := [] }) ?assign ?body ?done ?stop
  case assign =>
    intro l x W K hK
    gi_wp2
    exact hK
  case body =>
    rintro l pre x W ⟨⟨p, q, hgo, hof⟩, hB⟩ _
    obtain ⟨c1, c2, c3, c4, c5, c6, ⟨d1, d2⟩, ⟨d3, d4⟩, ⟨d5, d6⟩, d7, d8⟩ := hof.cells
    have hst := hof.step (wrap64 (wrap64 (x.2 * p) + q)) p
    have hBs : ∀ (i v), Below w.heap.size w (W.setCell ⟨w.heap.size + i, 0, none⟩ v) := fun i v => hB.setCell (p := ⟨w.heap.size + i, 0, none⟩) (by show w.heap.size ≤ w.heap.size + i; omega) v
    have hB2 := (hBs 2 (.int .i64 (wrap64 (wrap64 (x.2 * p) + q)))).setCell (p := ⟨w.heap.size + 3, 0, none⟩) (by show w.heap.size ≤ w.heap.size + 3; omega) (.int .i64 p)
    have hgn : ogo ((pre ++ [x]).map Prod.snd) 1 0 = if okCo (wrap64 (wrap64 (x.2 * p) + q)) = true then some (wrap64 (wrap64 (x.2 * p) + q), p) else none := by
      rw [List.map_append, ogo_app, hgo]
      simp [ogo]
    gi_wp2_with (refine ⟨trivial, ?_⟩; gi_at_call 62; refine (CallsIn.inRound l (callsIn_wide.2 (co_w _ _))).mono ?_; rintro e w' ⟨rfl, rfl⟩)
    · rename_i hok
      refine ⟨((KeepsOthers.setCell _ _ _).trans (KeepsOthers.setCell _ _ _)).trans (set5_keeps _ _ _ _ _ _ _), ⟨⟨rfl, ?_⟩, hst.res 0 0 0 0 3⟩, set5_below hB2 (Nat.le_refl _) _ _ _ _ _⟩
      rw [hgn, if_neg (by simpa using hok)]
    · rename_i hok
      have hK2 := ((Below.refl w.heap.size W).setCell (p := ⟨w.heap.size + 2, 0, none⟩) (by show w.heap.size ≤ w.heap.size + 2; omega) (.int .i64 (wrap64 (wrap64 (x.2 * p) + q)))).setCell (p := ⟨w.heap.size + 3, 0, none⟩) (by show w.heap.size ≤ w.heap.size + 3; omega) (.int .i64 p)
      refine ⟨(KeepsOthers.setCell _ _ _).trans (KeepsOthers.setCell _ _ _), ⟨hK2, fun v hv => ?_⟩, ⟨_, _, ?_, hst⟩, hB2⟩
      · exact (World.cell?_of_block (by rw [heap_set_other (by show w.heap.size + 4 ≠ _; omega), heap_set_other (by show w.heap.size + 4 ≠ _; omega)])).trans hv
      · rw [hgn, if_pos (by simpa using hok)]
  case done =>
    rintro D ys W hD rfl ⟨⟨p, q, hgo, hof⟩, hB⟩ hK
    obtain ⟨c1, c2, c3, c4, c5, c6, ⟨d1, d2⟩, ⟨d3, d4⟩, ⟨d5, d6⟩, d7, d8⟩ := hof.cells
    rw [upto_snd zs (Nat.le_refl _), List.take_of_length_le (by simp)] at hgo
    have hDn : w.heap.size ≤ D := by rw [hsz] at hD; omega
    gi_wp2
    · rename_i hp
      have hp0 : p = 0 := by simpa using hp
      have hK' := (set5_keeps W w.heap.size (.int .i64 0) (.int .i64 0) (.int .i64 0) (.int .i64 0) (.int .i64 5)).same D _ hK rfl
      refine ⟨by simp, .inl ⟨_, _, rfl, run_takeDeferred hK', ?_⟩⟩
      refine ⟨_, of_results ((hof.res 0 0 0 0 5).keep (grownBy_putObj' _ D (.deferred none)) (fun r e => by cases e; exact ⟨_, hK', rfl⟩)) rfl rfl, ?_, (set5_below hB (Nat.le_refl _) _ _ _ _ _).trans (belowK_b (w := w) (Nat.le_refl _) _ D _ _ hDn hK' rfl rfl)⟩
      unfold ofV; rw [hgo]; simp [hp0]
    · rename_i hp
      have hp0 : ¬ p = 0 := by simpa using hp
      have hK' := (set5_keeps W w.heap.size (.int .i64 1) (.int .i64 0) (.int .i64 q) (.int .i64 p) (.int .i64 0)).same D _ hK rfl
      refine ⟨by simp, .inl ⟨_, _, rfl, run_takeDeferred hK', ?_⟩⟩
      refine ⟨_, of_results ((hof.res 1 0 q p 0).keep (grownBy_putObj' _ D (.deferred none)) (fun r e => by cases e; exact ⟨_, hK', rfl⟩)) rfl rfl, ?_, (set5_below hB (Nat.le_refl _) _ _ _ _ _).trans (belowK_b (w := w) (Nat.le_refl _) _ D _ _ hDn hK' rfl rfl)⟩
      unfold ofV; rw [hgo]; simp [hp0]
  case stop =>
    rintro D c pre W hD ⟨k, hk, rfl⟩ ⟨⟨⟨rfl, hgo⟩, hres⟩, hB⟩ hK
    rw [upto_snd zs hk] at hgo
    have hgo' : ogo zs.reverse 1 0 = none := by
      rw [← List.take_append_drop k zs.reverse, ogo_app, hgo]; rfl
    have hDn : w.heap.size ≤ D := by rw [hsz] at hD; omega
    gi_wp2
    refine ⟨by simp, .inl ⟨_, _, rfl, run_takeDeferred hK, ?_⟩⟩
    refine ⟨_, of_results (hres.keep (grownBy_putObj' _ D (.deferred none)) (fun r e => by cases e; exact ⟨_, hK, rfl⟩)) rfl rfl, ?_, hB.trans (belowK_b (w := w) (Nat.le_refl _) _ D _ _ hDn hK rfl rfl)⟩
    unfold ofV; rw [hgo']

theorem okCo_eq (x : Int) : okCo x = isCoordF x := by
  unfold okCo isCoordF inF
  rfl
theorem ogo_eq : ∀ (vs : List Int) (p q : Int), ogo vs p q = ofGo vs p q
  | [], p, q => rfl
  | c :: vs, p, q => by rw [ogo, ofGo, okCo_eq, w64_eq, w64_eq, ogo_eq vs]
theorem il_getD (xs : List Int) (j : Nat) (h : j < xs.length) : (il xs)[j]? = some (.int .i64 (xs.getD j 0)) := by
  simp [il, List.getD, h]
theorem plain_all {l : List Value} (h : Plain l) : allL plain0 l = true := by
  induction l with
  | nil => rfl
  | cons v l ih => unfold allL; rw [h v (by simp)]; exact ih fun u hu => h u (by simp [hu])
theorem ofV_plain (xs : List Int) : plain (ofV xs) = true := by
  unfold ofV
  split
  · rfl
  · split <;> rfl
theorem c_ofList {xs : List Int} {sp : List Value} {n c : Nat} (h1 : Row (il xs) sp n c 1) (hn : n ≤ 1048576) : CallR Try.prog n_impl_ofList [.slice (some ⟨0, 0, none⟩) n c] [il xs ++ sp] (ofV xs) := by
  obtain rfl := row_il h1
  refine ⟨fn_impl_ofList.enters, ofV_plain xs, fun w ρ0 hro hlt => ?_⟩
  obtain ⟨k1, k2, k3⟩ := hro.at_ 0 _ rfl
  exact callsIn_wide.1 (ofList_w (ρ0.getD 0 0) c xs hn w k1 fun j hj => k2 j (.int .i64 (xs.getD j 0)) (by rw [List.getElem?_append_left (by rw [il_len]; exact hj)]; exact il_getD xs j hj))
theorem c_ofList_ok {xs : List Int} {sp : List Value} {n c : Nat} {p q : Int} (h1 : Row (il xs) sp n c 1) (hn : n ≤ 1048576) (hg : ofGo xs.reverse 1 0 = some (p, q)) (hp : ¬ p = 0) : CallR Try.prog n_impl_ofList [.slice (some ⟨0, 0, none⟩) n c] [il xs ++ sp] (t2 (q4 1 0 q p) (ii 0)) := by
  have := c_ofList h1 hn
  unfold ofV at this
  rw [ogo_eq, hg] at this
  simpa [hp] using this
theorem c_ofList_zero {xs : List Int} {sp : List Value} {n c : Nat} {p q : Int} (h1 : Row (il xs) sp n c 1) (hn : n ≤ 1048576) (hg : ofGo xs.reverse 1 0 = some (p, q)) (hp : p = 0) : CallR Try.prog n_impl_ofList [.slice (some ⟨0, 0, none⟩) n c] [il xs ++ sp] (t2 (q4 0 0 0 0) (ii 5)) := by
  have := c_ofList h1 hn
  unfold ofV at this
  rw [ogo_eq, hg] at this
  simpa [hp] using this
theorem c_ofList_big {xs : List Int} {sp : List Value} {n c : Nat} (h1 : Row (il xs) sp n c 1) (hn : n ≤ 1048576) (hg : ofGo xs.reverse 1 0 = none) : CallR Try.prog n_impl_ofList [.slice (some ⟨0, 0, none⟩) n c] [il xs ++ sp] (t2 (q4 0 0 0 0) (ii 3)) := by
  have := c_ofList h1 hn
  unfold ofV at this
  rw [ogo_eq, hg] at this
  exact this

end Go.Proofs.Ytlkbfpklhncfbaa
