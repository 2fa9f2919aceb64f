/-
  What the world holds of package variables: the bound of the byte search, two errors, the powers of ten.
  Conditions: none.
-/
import Derived.WalkKit
import Derived.KernelRfl
import Derived.Lib.LaidTab
import Derived.Lib.ItoaNum
import Derived.Test.YtlkbfpklhncfbaaGreatDoorChecked
set_option linter.unusedVariables false
namespace Go.Ev
open Go.Proofs
def layG : Nat := 8
structure LayW (w : World) : Prop where
  size : layG ≤ w.heap.size
  mx : ∃ m, w.cell? ⟨0, 0, none⟩ = some (.int .i64 m)
  syn : ∃ tp p, w.cell? ⟨1, 0, none⟩ = some (.iface tp p)
  rng : ∃ tp p, w.cell? ⟨2, 0, none⟩ = some (.iface tp p)
  tab : Lib.TabIs Tryz.prog w "internal/strconv.uint64pow10" .u64 Lib.pow10Tab
theorem cell_keep {w w' : World} {b : Nat} (h : w'.heap[b]? = w.heap[b]?) (a : Addr) (ha : a.block = b) : w'.cell? a = w.cell? a := by
  subst ha
  unfold World.cell?
  rw [h]
theorem LayW.keep {w w' : World} (h : LayW w) (hs : w.heap.size ≤ w'.heap.size) (hb : ∀ b, b < layG → w'.heap[b]? = w.heap[b]?) : LayW w' := by
  obtain ⟨m, hm⟩ := h.mx
  obtain ⟨t1, p1, h1⟩ := h.syn
  obtain ⟨t2, p2, h2⟩ := h.rng
  refine ⟨Nat.le_trans h.size hs, ⟨m, (cell_keep (hb 0 (by decide)) _ rfl).trans hm⟩, ⟨t1, p1, (cell_keep (hb 1 (by decide)) _ rfl).trans h1⟩, ⟨t2, p2, (cell_keep (hb 2 (by decide)) _ rfl).trans h2⟩, ?_⟩
  have ht := h.tab
  have hg : Tryz.prog.globalNamed "internal/strconv.uint64pow10" = some 3 := by kernel_rfl
  unfold Lib.TabIs World.var? at ht ⊢
  rw [hg] at ht ⊢
  simp only [Option.bind_some] at ht ⊢
  rw [hb 3 (by decide)]
  exact ht
end Go.Ev
