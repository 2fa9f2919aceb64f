/-
  The evaluator, part 5: 'append' on slices of the call's own; rows of cells whose length is not told.
  Conditions: none.
-/
import Derived.Test.YtlkbfpklhncfbaaEvMake
import Derived.Laws.AppendOwn
set_option linter.unusedVariables false
set_option linter.unusedSimpArgs false
namespace Go.Ev
open Go.RowKit

def Plain (L : List Value) : Prop := ∀ v ∈ L, plain0 v = true
theorem Plain.nil : Plain [] := fun v hv => by cases hv
theorem Plain.app {L M : List Value} (h : Plain L) (k : Plain M) : Plain (L ++ M) := fun v hv => (List.mem_append.1 hv).elim (h v) (k v)
theorem Plain.of {L : List Value} (h : allL plain0 L = true) : Plain L := allL_spec h
theorem Plain.drop {L : List Value} (h : Plain L) (n : Nat) : Plain (L.drop n) := fun v hv => h v (List.mem_of_mem_drop hv)
theorem Plain.take {L : List Value} (h : Plain L) (n : Nat) : Plain (L.take n) := fun v hv => h v (List.mem_of_mem_take hv)
theorem Plain.left {L M : List Value} (h : Plain (L ++ M)) : Plain L := fun v hv => h v (List.mem_append_left _ hv)
theorem Plain.right {L M : List Value} (h : Plain (L ++ M)) : Plain M := fun v hv => h v (List.mem_append_right _ hv)
theorem Plain.map {L : List Value} (h : Plain L) (ρ : List Nat) : L.map (conc0 ρ) = L := map_plain fun v hv => (plain0_ok (h v hv) 0 ρ).2
theorem Plain.ok {L : List Value} (h : Plain L) (n : Nat) : ∀ v ∈ L, ok0 n v := fun v hv => (plain0_ok (h v hv) n []).1
theorem Plain.ints (xs : List Int) : Plain (xs.map (Value.int .i64)) := fun v hv => by
  obtain ⟨x, _, rfl⟩ := List.mem_map.1 hv
  rfl

/-- A row: n elements, and room for c; es cells an element. -/
structure Row (L sp : List Value) (n c es : Nat) : Prop where
  len : L.length = n * es
  cap : L.length + sp.length = c * es
  pl : Plain L
  ps : Plain sp

theorem Row.all {L sp : List Value} {n c es : Nat} (h : Row L sp n c es) : Plain (L ++ sp) := h.pl.app h.ps
theorem Row.le {L sp : List Value} {n c es : Nat} (h : Row L sp n c es) (he : 0 < es) : n ≤ c := by
  have h1 := h.len; have h2 := h.cap
  have : n * es ≤ c * es := by omega
  exact Nat.le_of_mul_le_mul_right this he

/-- 'append', seen from the evaluator. -/
structure AppK (P : Program) (t e es by_ : Nat) (z : List Value) (vs : List Value) (mem : Mem) (K : Value → Mem → Prop) : Prop where
  run : ∀ (i : TypeInfo) (zv : Value), P.underlying t = some (.slice e) → P.info? e = some i → i.zero = some zv → i.size = es → i.bytes = by_ → zv.cells.toList = z →
    ∀ w0 ρ w ty, MemAt w0 ρ mem w → (∀ v ∈ vs, ok2 ρ.length v) →
    ∃ w' v mem' σ, (Builtin.append_ #[t, t] ty (vs.map (conc ρ)).toArray).run P w = .ok (conc (ρ ++ σ) v) w' ∧ ok2 (ρ ++ σ).length v ∧ MemAt w0 (ρ ++ σ) mem' w' ∧ K v mem'

theorem setRow_upd {w : World} {b t : Nat} {cs cs' : Array Value} (h : w.heap[b]? = some (.cells cs t (0, 0))) : w.setRow b cs' = upd w b (.cells cs' t (0, 0)) := by
  unfold World.setRow upd
  rw [modify_known _ _ _ _ h]

theorem zeroCells_plain {z : List Value} (hz : Plain z) {zv : Value} (h : zv.cells.toList = z) (hne : 0 < z.length) (n : Nat) : Plain (Builtin.zeroCells zv.cells n).toList := fun v hv => by
  simp only [Builtin.zeroCells, Array.toList_map, List.mem_map] at hv
  obtain ⟨j, _, rfl⟩ := hv
  have hl : zv.cells.size = z.length := by rw [← h]; simp
  have hj : j % zv.cells.size < zv.cells.size := Nat.mod_lt _ (by omega)
  rw [getElem!_pos zv.cells _ hj]
  exact hz _ (by rw [← h]; simp)

theorem take_drop_at {cs news : List Value} {k off : Nat} (h : List.take k (List.drop off cs) = news) {j : Nat} {u : Value} (hu : news[j]? = some u) : cs[off + j]? = some u := by
  subst h
  rw [List.getElem?_take] at hu
  split at hu
  · simpa [List.getElem?_drop] using hu
  · cases hu

/-- append to a row of the call's own. -/
theorem app_row {P : Program} {t e es by_ : Nat} {z : List Value} {mem : Mem} {K : Value → Mem → Prop} {b n c m b2 off c2 : Nat} {L sp news : List Value} {blk2 : Blk}
    (hrow : Row L sp n c es) (hb : mem[b]? = some (L ++ sp, some e)) (hb2 : mem[b2]? = some blk2) (hn : List.take (m * es) (List.drop off blk2.1) = news) (hl : news.length = m * es) (hp : Plain news)
    (hz : allL plain0 z = true) (hzl : z.length = es) (he : 0 < es) (hby : (n + m) * by_ ≤ 140737488355328) (h63 : n + m ≤ 140737488355328)
    (h1 : n + m ≤ c → ∀ sp', Row (L ++ news) sp' (n + m) c es → K (.slice (some ⟨b, 0, none⟩) (n + m) c) (setM mem b (L ++ news ++ sp', some e)))
    (h2 : c < n + m → ∀ c' sp', Row (L ++ news) sp' (n + m) c' es → K (.slice (some ⟨mem.length, 0, none⟩) (n + m) c') (mem ++ [(L ++ news ++ sp', some e)])) :
    AppK P t e es by_ z [.slice (some ⟨b, 0, none⟩) n c, .slice (some ⟨b2, off, none⟩) m c2] mem K := by
  refine ⟨fun i zv ht hi hiz hsz hbs hzv w0 ρ w ty hm hok => ?_⟩
  subst hsz hbs
  obtain ⟨hown, _⟩ := hm.own b _ e hb
  have hpl : Plain (L ++ sp) := hrow.pl.app hrow.ps
  rw [hpl.map] at hown
  have hnews : ∀ j u, news[j]? = some u → w.cell? ((⟨ρ.getD b2 0, off, none⟩ : Addr).add j) = some u := fun j u hu => by
    have h3 := take_drop_at hn hu
    obtain ⟨h4, _⟩ := hm.cell hb2 h3 (plain0_wild (hp u (List.mem_of_getElem? hu)))
    rw [(plain0_ok (hp u (List.mem_of_getElem? hu)) 0 ρ).2] at h4
    rw [Addr.add_lit]
    exact h4
  have hargs : ([Value.slice (some ⟨b, 0, none⟩) n c, .slice (some ⟨b2, off, none⟩) m c2].map (conc ρ)).toArray = #[.slice (some ⟨ρ.getD b 0, 0, none⟩) n c, .slice (some ⟨ρ.getD b2 0, off, none⟩) m c2] := rfl
  rw [hargs]
  have hlen : (L ++ news).length = (n + m) * i.size := by rw [List.length_append, hrow.len, hl, Nat.add_mul]
  by_cases hroom : n + m ≤ c
  · have hle : (n + m) * i.size ≤ c * i.size := Nat.mul_le_mul_right _ hroom
    have hcap := hrow.cap
    have hL := hrow.len
    rw [Nat.add_mul] at hle
    have hr := run_append_room (P := P) w t ty e i ht hi (ρ.getD b 0) n c (L ++ sp).toArray hown ⟨ρ.getD b2 0, off, none⟩ m c2 news hl hnews (fun u hu => by
      have := hp u hu
      cases u <;> first | rfl | cases this) hroom (by simp; omega)
    have hcs : (L ++ sp).toArray.toList.take (n * i.size) ++ news ++ (L ++ sp).toArray.toList.drop (n * i.size + news.length) = L ++ news ++ sp.drop news.length := by
      rw [← hL]
      simp [List.drop_append]
    rw [hcs, setRow_upd hown] at hr
    have hrow' : Row (L ++ news) (sp.drop news.length) (n + m) c i.size := ⟨hlen, by rw [hlen, List.length_drop]; simp only [Nat.add_mul]; omega, hrow.pl.app hp, hrow.ps.drop _⟩
    have hpl' : Plain (L ++ news ++ sp.drop news.length) := hrow'.pl.app hrow'.ps
    refine ⟨_, .slice (some ⟨b, 0, none⟩) (n + m) c, _, [], by rw [List.append_nil]; exact hr, ?_, ?_, h1 hroom _ hrow'⟩
    · rw [List.append_nil]
      exact hok (.slice (some ⟨b, 0, none⟩) n c) (List.mem_cons_self)
    · rw [List.append_nil, setM_eq]
      have := hm.store hb (cs' := L ++ news ++ sp.drop news.length) (hpl'.ok _)
      rw [hpl'.map] at this
      exact this
  · have hr := run_append_grow (P := P) w t ty e i zv ht hi hiz ⟨ρ.getD b 0, 0, none⟩ n c L hrow.len (fun j u hu => by
        have hu' : (L ++ sp)[j]? = some u := by rw [List.getElem?_append_left (getElem?_len hu)]; exact hu
        obtain ⟨h4, _⟩ := hm.cell hb hu' (plain0_wild (hrow.pl u (List.mem_of_getElem? hu)))
        rw [(plain0_ok (hrow.pl u (List.mem_of_getElem? hu)) 0 ρ).2] at h4
        rw [Addr.add_lit, Nat.zero_add]
        exact h4) ⟨ρ.getD b2 0, off, none⟩ m c2 news hl hnews (by omega) (by omega) (growslice_fits (by omega) hby)
    have hge := grownCap_ge w (n + m) c e
    have hzp := zeroCells_plain (Plain.of hz) hzv (by omega) (grownCap w (n + m) c e - (n + m))
    have hrow' : Row (L ++ news) (Builtin.zeroCells zv.cells (grownCap w (n + m) c e - (n + m))).toList (n + m) (grownCap w (n + m) c e) i.size := ⟨hlen, by
      have hzs : zv.cells.size = i.size := by rw [← hzl, ← hzv]; simp
      rw [hlen, Array.length_toList, size_zeroCells, hzs, ← Nat.add_mul]
      congr 1
      omega, hrow.pl.app hp, hzp⟩
    have hpl' : Plain (L ++ news ++ (Builtin.zeroCells zv.cells (grownCap w (n + m) c e - (n + m))).toList) := hrow'.pl.app hrow'.ps
    have hal := (hm.drew (w.drawn + 1)).alloc (hpl'.ok _) e
    refine ⟨w.drew.alloc (.cells (L.toArray ++ news.toArray ++ Builtin.zeroCells zv.cells (grownCap w (n + m) c e - (n + m))) e), .slice (some ⟨mem.length, 0, none⟩) (n + m) (grownCap w (n + m) c e), mem ++ [(L ++ news ++ (Builtin.zeroCells zv.cells (grownCap w (n + m) c e - (n + m))).toList, some e)], [w.heap.size], ?_, ?_, ?_, h2 (by omega) _ _ hrow'⟩
    · rw [hr]
      have hv : conc (ρ ++ [w.heap.size]) (.slice (some ⟨mem.length, 0, none⟩) (n + m) (grownCap w (n + m) c e)) = .slice (some ⟨w.heap.size, 0, none⟩) (n + m) (grownCap w (n + m) c e) := by
        simp only [conc, conc1, conc0, cAddr, ← hm.len, getD_new]
      rw [hv]
    · simp [ok2, ok1, ok0, ← hm.len]
    · rw [hpl'.map] at hal
      have e1 : (L ++ news ++ (Builtin.zeroCells zv.cells (grownCap w (n + m) c e - (n + m))).toList).toArray = L.toArray ++ news.toArray ++ Builtin.zeroCells zv.cells (grownCap w (n + m) c e - (n + m)) := by
        apply Array.ext'
        simp
      rw [e1] at hal
      exact hal

/-- append of what a block holds. -/
theorem app_lit {P : Program} {t e es by_ : Nat} {z : List Value} {mem : Mem} {K : Value → Mem → Prop} {b n c m b2 c2 : Nat} {L sp news : List Value} {kd2 : Option Nat}
    (hrow : Row L sp n c es) (hb : mem[b]? = some (L ++ sp, some e)) (hb2 : mem[b2]? = some (news, kd2)) (hl : news.length = m * es) (hp : Plain news)
    (hz : allL plain0 z = true) (hzl : z.length = es) (he : 0 < es) (hby : (n + m) * by_ ≤ 140737488355328) (h63 : n + m ≤ 140737488355328)
    (h1 : n + m ≤ c → ∀ sp', Row (L ++ news) sp' (n + m) c es → K (.slice (some ⟨b, 0, none⟩) (n + m) c) (setM mem b (L ++ news ++ sp', some e)))
    (h2 : c < n + m → ∀ c' sp', Row (L ++ news) sp' (n + m) c' es → K (.slice (some ⟨mem.length, 0, none⟩) (n + m) c') (mem ++ [(L ++ news ++ sp', some e)])) :
    AppK P t e es by_ z [.slice (some ⟨b, 0, none⟩) n c, .slice (some ⟨b2, 0, none⟩) m c2] mem K :=
  app_row hrow hb hb2 (by simp [← hl]) hl hp hz hzl he hby h63 h1 h2

end Go.Ev
