/-
  Contracts of functions of the program (printed by a program of this work; Lean checks each).
  Conditions: as each contract states.
-/
import Derived.Test.YtnjepaboecijcaaK37
import Derived.Test.YtnjepaboecijcaaGeo
import Derived.Test.YtnjepaboecijcaaRng
import Derived.Test.YtnjepaboecijcaaEvMake
import Derived.RangeFuncNested
import Derived.RangeFuncBound
import Derived.RangeFuncCalls
import Derived.RangeFuncLeaves
import Derived.RangeFuncBox
import Derived.Shelf.Abstract
import Derived.Shelf.RegionOpen
import Derived.WalkKit
import Derived.OwnWalkIn
import Derived.TacticsInMore
import Derived.LoopNIn
import Derived.LoopIn
import Derived.Lib.Builder
namespace Go.Proofs.Ytnjepaboecijcaa
open Go.Ev Go.RowKit
open Go.Shelf
set_option maxRecDepth 100000
set_option linter.unusedVariables false
set_option linter.unusedSimpArgs false

attribute [local go_sem] Oper.semAt_some

set_option maxRecDepth 100000 in
set_option maxHeartbeats 2000000 in
theorem gback1_in (F : Fence) (n : Nat) (h8 : F.fn 105) (hro : F.round = none) (hn : 1 ≤ n) (l Bs b cap : Nat) (zs : List (Int × Int)) (hreach : zs.length ≤ 1048576) (J Jx : List (Nat × (Int × Int)) → World → Prop)
    (hY : ∀ pre x W, J pre W → pre.length < zs.length → YieldAt F (n - 1) Try.prog l #[.int .i64 (x.1 : Int), .agg #[.int .i64 x.2.1, .int .i64 x.2.2]] W fun e W' =>
      (e = .returned (.bool true) ∧ J (pre ++ [x]) W' ∧ KeepC b Bs W W') ∨ (e = .returned (.bool false) ∧ Jx (pre ++ [x]) W'))
    (W : World) (hBs : W.cell? ⟨Bs, 0, none⟩ = some (.slice (some ⟨b, 0, none⟩) zs.length cap)) (hc : ∀ j, j < zs.length → W.cell? ⟨b, j * 2, none⟩ = some (.int .i64 (zs.getD j (0, 0)).1) ∧ W.cell? ⟨b, j * 2 + 1, none⟩ = some (.int .i64 (zs.getD j (0, 0)).2)) (h0 : J [] W) :
    CallsIn F n Try.prog 105 #[.func (.yield l) #[] #[], .pointer (some ⟨Bs, 0, none⟩)] W fun e W' => (∃ v, e = .returned v) ∧
      ((∃ ys, ys = uptoL (bPt zs) zs.length ∧ J ys W') ∨ (∃ pre, (∃ k, k ≤ zs.length ∧ pre = uptoL (bPt zs) k) ∧ Jx pre W')) := by
  refine callsIn_of_wp Try.func105 rfl h8 ?_ hro
  simp only [Try.ntmps105, List.size_toArray, List.length_cons, List.length_nil, Nat.reduceAdd, Nat.reduceSub, Array.replicate_succ, Array.replicate_zero, List.push_toArray, List.append_toArray, List.nil_append, List.cons_append]
  gi_wp2
  gi_loopw [3] (fun i wr => ∃ k : Nat, k ≤ zs.length ∧ i = .int .i64 ((zs.length : Int) - 1 - k) ∧ J (uptoL (bPt zs) k) wr ∧ KeepC b Bs W wr)
    (fun i _ => (intOf i + 1).toNat)
  case atStart => exact ⟨0, Nat.zero_le _, by simp, h0, keepC_refl _ _ _⟩
  case round =>
    obtain ⟨k, hk, rfl, hJs, hnx⟩ := hrel
    by_cases hlt : k < zs.length
    · obtain ⟨m, hm⟩ : ∃ m, m + k + 1 = zs.length := ⟨zs.length - 1 - k, by omega⟩
      have hi : (zs.length : Int) - 1 - k = (m : Int) := by omega
      have hbs := hnx Bs (.inr rfl) 0 _ hBs
      have hcx' : wr.cell? ⟨b, m * 2, none⟩ = some (.int .i64 (zs.getD m (0, 0)).1) := hnx b (.inl rfl) _ _ (hc m (by omega)).1
      have hcy' : wr.cell? ⟨b, m * 2 + 1, none⟩ = some (.int .i64 (zs.getD m (0, 0)).2) := hnx b (.inl rfl) _ _ (hc m (by omega)).2
      obtain ⟨fn, tmps, assign, body, hy, hR⟩ := hY _ (bPt zs k) wr hJs (by rw [uptoL_length]; exact hlt)
      have hbk : bPt zs k = (m, zs.getD m (0, 0)) := by unfold bPt; rw [show zs.length - 1 - k = m by omega]
      rw [hbk] at hy hR
      dsimp only at hy
      rw [hi]
      generalize hz : zs.getD m (0, 0) = zv at hcx' hcy' hy hR hbk
      have hml : m < zs.length := by omega
      clear hz hi
      gi_wp2
      refine hR.mono ?_
      rintro e W3 (⟨rfl, hJ3, hk3⟩ | ⟨rfl, hJx3⟩)
      · gi_wp2
        go_roundw
        case rel =>
          refine ⟨k + 1, by omega, ?_, by rw [uptoL_succ, hbk]; exact hJ3, keepC_t hnx hk3⟩
          congr 1; omega
        case measure => simp [intOf]
      · gi_wp2
        refine bodyPost_ret (results_none rfl _ _ _) rfl ?_
        exact ⟨⟨_, rfl⟩, .inr ⟨_, ⟨k + 1, by omega, by rw [uptoL_succ, hbk]⟩, hJx3⟩⟩
    · obtain rfl : k = zs.length := by omega
      rw [show (zs.length : Int) - 1 - zs.length = -1 by omega]
      gi_wp2
      go_end0
      exact ⟨⟨_, rfl⟩, .inl ⟨_, rfl, hJs⟩⟩

set_option maxRecDepth 100000 in
set_option maxHeartbeats 1000000 in
theorem gback_in (F : Fence) (n : Nat) (h6 : F.fn 69) (hro : F.round = none) (a : Option Addr) (len cap : Nat) (w : World) :
    CallsIn F n Try.prog 69 #[.slice a len cap] w fun e w' => e = .returned (.func (.func 105) #[] #[.pointer (some ⟨w.heap.size, 0, none⟩)]) ∧ w' = w.alloc (.cells #[.slice a len cap] 31) := by
  refine callsIn_of_wp Try.func69 rfl h6 ?_ hro
  simp only [Try.ntmps69, List.size_toArray, List.length_cons, List.length_nil, Nat.reduceAdd, Nat.reduceSub, Array.replicate_succ, Array.replicate_zero, List.push_toArray, List.append_toArray, List.nil_append, List.cons_append]
  gi_wp2
  go_ret
  exact ⟨rfl, rfl⟩

theorem gback_stops (F : Fence) (n : Nat) (h8 : F.fn 105) (hro : F.round = none) (hn : 1 ≤ n) (Bs b cap : Nat) (zs : List (Int × Int)) (hreach : zs.length ≤ 1048576) (w : World) (hBs : Bs < w.heap.size) (hb : b < w.heap.size)
    (hc : w.cell? ⟨Bs, 0, none⟩ = some (.slice (some ⟨b, 0, none⟩) zs.length cap)) (hI : ∀ j, j < zs.length → w.cell? ⟨b, j * 2, none⟩ = some (.int .i64 (zs.getD j (0, 0)).1) ∧ w.cell? ⟨b, j * 2 + 1, none⟩ = some (.int .i64 (zs.getD j (0, 0)).2)) :
    SeqStopsK F n Try.prog 105 #[.pointer (some ⟨Bs, 0, none⟩)] (fun x : Nat × (Int × Int) => #[Value.int .i64 (x.1 : Int), Value.agg #[.int .i64 x.2.1, .int .i64 x.2.2]]) (KeepC b Bs) (fun ys => ys = uptoL (bPt zs) zs.length)
      (fun pre => ∃ k, k ≤ zs.length ∧ pre = uptoL (bPt zs) k) zs.length w := fun l J Jx W hW _ _ hY h0 =>
  gback1_in F n h8 hro hn l Bs b cap zs hreach J Jx hY W ((hW.cell (p := ⟨Bs, 0, none⟩) hBs).trans hc) (fun j hj => ⟨(hW.cell (p := ⟨b, j * 2, none⟩) hb).trans (hI j hj).1, (hW.cell (p := ⟨b, j * 2 + 1, none⟩) hb).trans (hI j hj).2⟩) h0

end Go.Proofs.Ytnjepaboecijcaa
