/-
  A block of the call's own whose cells are no more told. Conditions: none.
-/
import Derived.Test.YtgbnoaggnfjjgaaEvFn
import Derived.Lib.UnsafeStr
set_option linter.unusedVariables false
set_option linter.unusedSimpArgs false
namespace Go.Ev
open Go.RowKit

theorem MemAt.dead {w0 : Base} {w : World} {ρ : List Nat} {mem : Mem} (h : MemAt w0 ρ mem w) {k t : Nat} {cs : List Value} (hk : mem[k]? = some (cs, some t)) (o : Obj) :
    MemAt w0 ρ (mem.set k ([], none)) (upd w (ρ.getD k 0) o) := by
  have hst := h.store hk (cs' := []) (fun v hv => by cases hv)
  have hkl := getElem?_len hk
  have hkr : k < ρ.length := by rw [h.len]; exact hkl
  have hlt : ρ.getD k 0 < w.heap.size := h.lt _ (getD_mem hkr)
  have hback : ∀ i cs' t', (mem.set k ([], none))[i]? = some (cs', some t') → i ≠ k ∧ mem[i]? = some (cs', some t') := fun i cs' t' hi => by
    rw [List.getElem?_set] at hi
    by_cases hik : k = i
    · subst hik; simp [hkl] at hi
    · simp [hik] at hi; exact ⟨fun e => hik e.symm, hi⟩
  have hoth : ∀ b, b ≠ ρ.getD k 0 → (upd w (ρ.getD k 0) o).heap[b]? = w.heap[b]? := fun b hb => by
    rw [upd_heap hlt, if_neg (fun e => hb (by first | exact e | exact e.symm))]
  exact {
    os := h.os, tape := h.tape, output := h.output, size := by have := hst.size; simpa [upd] using this
    len := by rw [List.length_set]; exact h.len
    lt := fun b hb => by have := hst.lt b hb; simpa [upd] using this
    inj := fun i j cs' t' hi hj he => h.inj i j cs' t' (hback i cs' t' hi).2 hj he
    old := fun b hb hne => by
      have h1 : b ≠ ρ.getD k 0 := by
        rcases h.fresh k cs t hk with hin | hge
        · exact fun e => hne (by rw [e]; exact hin)
        · omega
      rw [hoth b h1]; exact h.old b hb hne
    fresh := fun i cs' t' hi => h.fresh i cs' t' (hback i cs' t' hi).2
    own := fun i cs' t' hi => by
      obtain ⟨h1, h2⟩ := hback i cs' t' hi
      obtain ⟨h3, h4⟩ := h.own i cs' t' h2
      rw [hoth _ (fun e => h1 (h.inj i k cs' t' h2 hkr e))]
      exact ⟨h3, h4⟩
    ro := fun i cs' hi hne => by
      rw [List.getElem?_set] at hi
      by_cases hik : k = i
      · subst hik; simp [hkl] at hi; exact absurd hi (fun e => hne (by first | exact e | exact e.symm))
      · simp [hik] at hi
        exact h.ro i cs' hi hne }

theorem freeze_upd {w : World} {b t n : Nat} {cs : Array Value} (h : w.heap[b]? = some (.cells cs t (0, 0))) (hn : n ≠ 0) : ∃ o, w.freeze ⟨b, 0, none⟩ n = upd w b o := by
  unfold World.freeze upd
  rw [if_neg hn, modify_known _ _ _ _ h]
  exact ⟨_, rfl⟩

/-- The builder's own check, at one that has been used. -/
theorem copy_used_q {P : Program} {f T b : Nat} {sl : Value} {mem : Mem} (he : Enters P f)
    (h : ∀ (b : Nat) (w : World), w.cell? ⟨b, 0, none⟩ = some (.pointer (some ⟨b, 0, none⟩)) → Calls P f #[.pointer (some ⟨b, 0, none⟩)] w fun e w' => e = .returned (.tuple #[]) ∧ w' = w)
    (hb : mem[b]? = some ([.pointer (some ⟨b, 0, none⟩), sl], some T)) : CallQ P f [.pointer (some ⟨b, 0, none⟩)] mem (.tuple #[]) :=
  ⟨he, fun v hv => (by cases hv), fun w0 ρ w hm _ => by
    obtain ⟨h1, _⟩ := hm.own b _ T hb
    have := h (ρ.getD b 0) w (by rw [cell?_of_cells h1]; rfl)
    refine Calls.mono this fun e w' ⟨he, hw⟩ => ?_
    subst hw
    exact ⟨he, Below.refl _ _⟩⟩

theorem copy_fresh_c {P : Program} {f T b : Nat} {sl : Value} {mem : Mem} {k : Value → Mem → Prop} (he : Enters P f)
    (h : ∀ (b : Nat) (w : World), w.cell? ⟨b, 0, none⟩ = some (.pointer none) → w.shape? b = some (T, 2) → w.frozen? ⟨b, 0, none⟩ = false →
      Calls P f #[.pointer (some ⟨b, 0, none⟩)] w fun e w' => e = .returned (.tuple #[]) ∧ w' = w.setCell ⟨b, 0, none⟩ (.pointer (some ⟨b, 0, none⟩)))
    (hb : mem[b]? = some ([.pointer none, sl], some T)) (hk : k (.tuple #[]) (setM mem b ([.pointer (some ⟨b, 0, none⟩), sl], some T))) : CallOK P f [.pointer (some ⟨b, 0, none⟩)] mem k :=
  ⟨he, fun w0 ρ w hm _ => by
    obtain ⟨h1, h2⟩ := hm.own b _ T hb
    have hbl : b < ρ.length := by rw [hm.len]; exact getElem?_len hb
    have := h (ρ.getD b 0) w (by rw [cell?_of_cells h1]; rfl) (by unfold World.shape?; simp only [h1]; rfl) (by unfold World.frozen?; simp only [h1]; rfl)
    refine Calls.mono this fun e w' ⟨he, hw⟩ => ?_
    subst hw
    refine ⟨.tuple #[], _, [], by rw [List.append_nil]; exact he, fun v hv => (by cases hv), ?_, hk⟩
    rw [List.append_nil, setM_eq, setCell_upd h1]
    have := hm.store hb (cs' := [.pointer (some ⟨b, 0, none⟩), sl]) (fun v hv => by
      rcases List.mem_cons.1 hv with rfl | hv
      · exact hbl
      · exact h2 v (List.mem_cons_of_mem _ hv))
    exact this⟩

/-- The string that a builder holds. -/
theorem string_c {P : Program} {f T U b r n c : Nat} {p : Value} {l : List UInt8} {sp : List Value} {mem : Mem} {k : Value → Mem → Prop} (he : Enters P f)
    (h : ∀ (b g cap : Nat) (p : Value) (cur : Array Value) (l : List UInt8) (w : World), l ≠ [] → w.heap[b]? = some (.cells #[p, .slice (some ⟨g, 0, none⟩) l.length cap] T (0, 0)) → w.heap[g]? = some (.cells cur U (0, 0)) →
      l.length ≤ cap → l.length ≤ 1048576 → cur.size = cap → (∀ (j : Nat) x, l[j]? = some x → cur[j]? = some (.int .u8 x.toNat)) →
      Calls P f #[.pointer (some ⟨b, 0, none⟩)] w fun e w' => e = .returned (.string ⟨l.toArray⟩) ∧ w' = w.drew.freeze ⟨g, 0, none⟩ l.length)
    (hb : mem[b]? = some ([p, .slice (some ⟨r, 0, none⟩) n c], some T)) (hr : mem[r]? = some (Lib.byteCells l ++ sp, some U)) (hn : l.length = n) (hc : l.length + sp.length = c) (hl : l ≠ []) (hm : l.length ≤ 1048576)
    (hk : k (.string ⟨l.toArray⟩) (setM mem r ([], none))) : CallOK P f [.pointer (some ⟨b, 0, none⟩)] mem k :=
  ⟨he, fun w0 ρ w hm' _ => by
    subst hn hc
    obtain ⟨h1, _⟩ := hm'.own b _ T hb
    obtain ⟨h3, _⟩ := hm'.own r _ U hr
    have := h (ρ.getD b 0) (ρ.getD r 0) (l.length + sp.length) (conc0 ρ p) _ l w hl h1 h3 (by omega) hm (by simp [Lib.byteCells_length]) (fun j x hx => by
      have hj := getElem?_len hx
      rw [List.getElem?_toArray, List.getElem?_map, List.getElem?_append_left (by rw [Lib.byteCells_length]; exact hj)]
      simp [Lib.byteCells, hx, conc0])
    refine Calls.mono this fun e w' ⟨he, hw⟩ => ?_
    subst hw
    obtain ⟨o, ho⟩ := freeze_upd (w := w.drew) (b := ρ.getD r 0) h3 (n := l.length) (by simpa using hl)
    refine ⟨.string ⟨l.toArray⟩, _, [], by rw [List.append_nil]; exact he, trivial, ?_, hk⟩
    rw [List.append_nil, setM_eq, ho]
    exact (hm'.drew (w.drawn + 1)).dead hr o⟩

end Go.Ev
