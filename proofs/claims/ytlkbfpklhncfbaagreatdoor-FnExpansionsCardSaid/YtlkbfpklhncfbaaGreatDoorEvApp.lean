/-
  The evaluator, part 5: 'append' on slices of the call's own; rows of cells whose length is not told.
  Conditions: none.
-/
import Derived.Lib.AppendStr
import Derived.Lib.AppendZeros
import Derived.Test.YtlkbfpklhncfbaaGreatDoorEvMake
import Derived.Laws.AppendOwn
set_option linter.unusedVariables false
set_option linter.unusedSimpArgs false
namespace Go.Ev
open Go.RowKit

def Plain (L : List Value) : Prop := ∀ v ∈ L, plain0 v = true
theorem Plain.nil : Plain [] := fun v hv => by cases hv
theorem Plain.app {L M : List Value} (h : Plain L) (k : Plain M) : Plain (L ++ M) := fun v hv => (List.mem_append.1 hv).elim (h v) (k v)
theorem Plain.of {L : List Value} (h : allL plain0 L = true) : Plain L := allL_spec h
theorem Plain.drop {L : List Value} (h : Plain L) (n : Nat) : Plain (L.drop n) := fun v hv => h v (List.mem_of_mem_drop hv)
theorem Plain.take {L : List Value} (h : Plain L) (n : Nat) : Plain (L.take n) := fun v hv => h v (List.mem_of_mem_take hv)
theorem Plain.left {L M : List Value} (h : Plain (L ++ M)) : Plain L := fun v hv => h v (List.mem_append_left _ hv)
theorem Plain.right {L M : List Value} (h : Plain (L ++ M)) : Plain M := fun v hv => h v (List.mem_append_right _ hv)
theorem Plain.map {L : List Value} (h : Plain L) (ρ : List Nat) : L.map (conc0 ρ) = L := map_plain fun v hv => (plain0_ok (h v hv) 0 ρ).2
theorem Plain.ok {L : List Value} (h : Plain L) (n : Nat) : ∀ v ∈ L, ok0 n v := fun v hv => (plain0_ok (h v hv) n []).1
theorem Plain.ints (xs : List Int) : Plain (xs.map (Value.int .i64)) := fun v hv => by
  obtain ⟨x, _, rfl⟩ := List.mem_map.1 hv
  rfl

/-- A row: n elements, and room for c; es cells an element. -/
structure Row (L sp : List Value) (n c es : Nat) : Prop where
  len : L.length = n * es
  cap : L.length + sp.length = c * es
  pl : Plain L
  ps : Plain sp

theorem Row.all {L sp : List Value} {n c es : Nat} (h : Row L sp n c es) : Plain (L ++ sp) := h.pl.app h.ps
theorem Row.le {L sp : List Value} {n c es : Nat} (h : Row L sp n c es) (he : 0 < es) : n ≤ c := by
  have h1 := h.len; have h2 := h.cap
  have : n * es ≤ c * es := by omega
  exact Nat.le_of_mul_le_mul_right this he

/-- 'append', seen from the evaluator. -/
structure AppK (P : Program) (t e es by_ : Nat) (z : List Value) (vs : List Value) (mem : Mem) (K : Value → Mem → Prop) : Prop where
  run : ∀ (i : TypeInfo) (zv : Value), P.underlying t = some (.slice e) → P.info? e = some i → i.zero = some zv → i.size = es → i.bytes = by_ → zv.cells.toList = z →
    ∀ w0 ρ w ty, MemAt w0 ρ mem w → (∀ v ∈ vs, ok2 ρ.length v) →
    ∃ w' v mem' σ, (Builtin.append_ #[t, t] ty (vs.map (conc ρ)).toArray).run P w = .ok (conc (ρ ++ σ) v) w' ∧ ok2 (ρ ++ σ).length v ∧ MemAt w0 (ρ ++ σ) mem' w' ∧ K v mem'

theorem setRow_upd {w : World} {b t : Nat} {cs cs' : Array Value} (h : w.heap[b]? = some (.cells cs t (0, 0))) : w.setRow b cs' = upd w b (.cells cs' t (0, 0)) := by
  unfold World.setRow upd
  rw [modify_known _ _ _ _ h]

theorem zeroCells_plain {z : List Value} (hz : Plain z) {zv : Value} (h : zv.cells.toList = z) (hne : 0 < z.length) (n : Nat) : Plain (Builtin.zeroCells zv.cells n).toList := fun v hv => by
  simp only [Builtin.zeroCells, Array.toList_map, List.mem_map] at hv
  obtain ⟨j, _, rfl⟩ := hv
  have hl : zv.cells.size = z.length := by rw [← h]; simp
  have hj : j % zv.cells.size < zv.cells.size := Nat.mod_lt _ (by omega)
  rw [getElem!_pos zv.cells _ hj]
  exact hz _ (by rw [← h]; simp)

theorem take_drop_at {cs news : List Value} {k off : Nat} (h : List.take k (List.drop off cs) = news) {j : Nat} {u : Value} (hu : news[j]? = some u) : cs[off + j]? = some u := by
  subst h
  rw [List.getElem?_take] at hu
  split at hu
  · simpa [List.getElem?_drop] using hu
  · cases hu

/-- append to a row of the call's own. -/
theorem app_row {P : Program} {t e es by_ : Nat} {z : List Value} {mem : Mem} {K : Value → Mem → Prop} {b n c m b2 off c2 : Nat} {L sp news : List Value} {blk2 : Blk}
    (hrow : Row L sp n c es) (hb : mem[b]? = some (L ++ sp, some e)) (hb2 : mem[b2]? = some blk2) (hn : List.take (m * es) (List.drop off blk2.1) = news) (hl : news.length = m * es) (hp : Plain news)
    (hz : allL plain0 z = true) (hzl : z.length = es) (he : 0 < es) (hby : (n + m) * by_ ≤ 140737488355328) (h63 : n + m ≤ 140737488355328)
    (h1 : n + m ≤ c → ∀ sp', Row (L ++ news) sp' (n + m) c es → K (.slice (some ⟨b, 0, none⟩) (n + m) c) (setM mem b (L ++ news ++ sp', some e)))
    (h2 : c < n + m → ∀ c' sp', Row (L ++ news) sp' (n + m) c' es → K (.slice (some ⟨mem.length, 0, none⟩) (n + m) c') (mem ++ [(L ++ news ++ sp', some e)])) :
    AppK P t e es by_ z [.slice (some ⟨b, 0, none⟩) n c, .slice (some ⟨b2, off, none⟩) m c2] mem K := by
  refine ⟨fun i zv ht hi hiz hsz hbs hzv w0 ρ w ty hm hok => ?_⟩
  subst hsz hbs
  obtain ⟨hown, _⟩ := hm.own b _ e hb
  have hpl : Plain (L ++ sp) := hrow.pl.app hrow.ps
  rw [hpl.map] at hown
  have hnews : ∀ j u, news[j]? = some u → w.cell? ((⟨ρ.getD b2 0, off, none⟩ : Addr).add j) = some u := fun j u hu => by
    have h3 := take_drop_at hn hu
    obtain ⟨h4, _⟩ := hm.cell hb2 h3 (plain0_wild (hp u (List.mem_of_getElem? hu)))
    rw [(plain0_ok (hp u (List.mem_of_getElem? hu)) 0 ρ).2] at h4
    rw [Addr.add_lit]
    exact h4
  have hargs : ([Value.slice (some ⟨b, 0, none⟩) n c, .slice (some ⟨b2, off, none⟩) m c2].map (conc ρ)).toArray = #[.slice (some ⟨ρ.getD b 0, 0, none⟩) n c, .slice (some ⟨ρ.getD b2 0, off, none⟩) m c2] := rfl
  rw [hargs]
  have hlen : (L ++ news).length = (n + m) * i.size := by rw [List.length_append, hrow.len, hl, Nat.add_mul]
  by_cases hroom : n + m ≤ c
  · have hle : (n + m) * i.size ≤ c * i.size := Nat.mul_le_mul_right _ hroom
    have hcap := hrow.cap
    have hL := hrow.len
    rw [Nat.add_mul] at hle
    have hr := run_append_room (P := P) w t ty e i ht hi (ρ.getD b 0) n c (L ++ sp).toArray hown ⟨ρ.getD b2 0, off, none⟩ m c2 news hl hnews (fun u hu => by
      have := hp u hu
      cases u <;> first | rfl | cases this) hroom (by simp; omega)
    have hcs : (L ++ sp).toArray.toList.take (n * i.size) ++ news ++ (L ++ sp).toArray.toList.drop (n * i.size + news.length) = L ++ news ++ sp.drop news.length := by
      rw [← hL]
      simp [List.drop_append]
    rw [hcs, setRow_upd hown] at hr
    have hrow' : Row (L ++ news) (sp.drop news.length) (n + m) c i.size := ⟨hlen, by rw [hlen, List.length_drop]; simp only [Nat.add_mul]; omega, hrow.pl.app hp, hrow.ps.drop _⟩
    have hpl' : Plain (L ++ news ++ sp.drop news.length) := hrow'.pl.app hrow'.ps
    refine ⟨_, .slice (some ⟨b, 0, none⟩) (n + m) c, _, [], by rw [List.append_nil]; exact hr, ?_, ?_, h1 hroom _ hrow'⟩
    · rw [List.append_nil]
      exact hok (.slice (some ⟨b, 0, none⟩) n c) (List.mem_cons_self)
    · rw [List.append_nil, setM_eq]
      have := hm.store hb (cs' := L ++ news ++ sp.drop news.length) (hpl'.ok _)
      rw [hpl'.map] at this
      exact this
  · have hr := run_append_grow (P := P) w t ty e i zv ht hi hiz ⟨ρ.getD b 0, 0, none⟩ n c L hrow.len (fun j u hu => by
        have hu' : (L ++ sp)[j]? = some u := by rw [List.getElem?_append_left (getElem?_len hu)]; exact hu
        obtain ⟨h4, _⟩ := hm.cell hb hu' (plain0_wild (hrow.pl u (List.mem_of_getElem? hu)))
        rw [(plain0_ok (hrow.pl u (List.mem_of_getElem? hu)) 0 ρ).2] at h4
        rw [Addr.add_lit, Nat.zero_add]
        exact h4) ⟨ρ.getD b2 0, off, none⟩ m c2 news hl hnews (by omega) (by omega) (growslice_fits (by omega) hby)
    have hge := grownCap_ge w (n + m) c e
    have hzp := zeroCells_plain (Plain.of hz) hzv (by omega) (grownCap w (n + m) c e - (n + m))
    have hrow' : Row (L ++ news) (Builtin.zeroCells zv.cells (grownCap w (n + m) c e - (n + m))).toList (n + m) (grownCap w (n + m) c e) i.size := ⟨hlen, by
      have hzs : zv.cells.size = i.size := by rw [← hzl, ← hzv]; simp
      rw [hlen, Array.length_toList, size_zeroCells, hzs, ← Nat.add_mul]
      congr 1
      omega, hrow.pl.app hp, hzp⟩
    have hpl' : Plain (L ++ news ++ (Builtin.zeroCells zv.cells (grownCap w (n + m) c e - (n + m))).toList) := hrow'.pl.app hrow'.ps
    have hal := (hm.drew (w.drawn + 1)).alloc (hpl'.ok _) e
    refine ⟨w.drew.alloc (.cells (L.toArray ++ news.toArray ++ Builtin.zeroCells zv.cells (grownCap w (n + m) c e - (n + m))) e), .slice (some ⟨mem.length, 0, none⟩) (n + m) (grownCap w (n + m) c e), mem ++ [(L ++ news ++ (Builtin.zeroCells zv.cells (grownCap w (n + m) c e - (n + m))).toList, some e)], [w.heap.size], ?_, ?_, ?_, h2 (by omega) _ _ hrow'⟩
    · rw [hr]
      have hv : conc (ρ ++ [w.heap.size]) (.slice (some ⟨mem.length, 0, none⟩) (n + m) (grownCap w (n + m) c e)) = .slice (some ⟨w.heap.size, 0, none⟩) (n + m) (grownCap w (n + m) c e) := by
        simp only [conc, conc1, conc0, cAddr, ← hm.len, getD_new]
      rw [hv]
    · simp [ok2, ok1, ok0, ← hm.len]
    · rw [hpl'.map] at hal
      have e1 : (L ++ news ++ (Builtin.zeroCells zv.cells (grownCap w (n + m) c e - (n + m))).toList).toArray = L.toArray ++ news.toArray ++ Builtin.zeroCells zv.cells (grownCap w (n + m) c e - (n + m)) := by
        apply Array.ext'
        simp
      rw [e1] at hal
      exact hal

/-- append of what a block holds. -/
theorem app_lit {P : Program} {t e es by_ : Nat} {z : List Value} {mem : Mem} {K : Value → Mem → Prop} {b n c m b2 c2 : Nat} {L sp news : List Value} {kd2 : Option Nat}
    (hrow : Row L sp n c es) (hb : mem[b]? = some (L ++ sp, some e)) (hb2 : mem[b2]? = some (news, kd2)) (hl : news.length = m * es) (hp : Plain news)
    (hz : allL plain0 z = true) (hzl : z.length = es) (he : 0 < es) (hby : (n + m) * by_ ≤ 140737488355328) (h63 : n + m ≤ 140737488355328)
    (h1 : n + m ≤ c → ∀ sp', Row (L ++ news) sp' (n + m) c es → K (.slice (some ⟨b, 0, none⟩) (n + m) c) (setM mem b (L ++ news ++ sp', some e)))
    (h2 : c < n + m → ∀ c' sp', Row (L ++ news) sp' (n + m) c' es → K (.slice (some ⟨mem.length, 0, none⟩) (n + m) c') (mem ++ [(L ++ news ++ sp', some e)])) :
    AppK P t e es by_ z [.slice (some ⟨b, 0, none⟩) n c, .slice (some ⟨b2, 0, none⟩) m c2] mem K :=
  app_row hrow hb hb2 (by simp [← hl]) hl hp hz hzl he hby h63 h1 h2


/-! ### rows that do not begin with their block -/
/-- The elements L, in the cells C from o on. -/
structure RowO (C : List Value) (o : Nat) (L : List Value) (n c es : Nat) : Prop where
  ex : ∃ pre sp suf, C = pre ++ (L ++ sp) ++ suf ∧ pre.length = o ∧ Row L sp n c es ∧ Plain pre ∧ Plain suf
theorem RowO.of {L sp : List Value} {n c es : Nat} (h : Row L sp n c es) : RowO (L ++ sp) 0 L n c es := ⟨[], sp, [], by simp, rfl, h, (fun _ hv => by cases hv), (fun _ hv => by cases hv)⟩
theorem RowO.all {C : List Value} {o : Nat} {L : List Value} {n c es : Nat} (h : RowO C o L n c es) : Plain C := by
  obtain ⟨pre, sp, suf, rfl, _, hr, h1, h2⟩ := h.ex
  exact (h1.app hr.all).app h2
theorem RowO.len {C : List Value} {o : Nat} {L : List Value} {n c es : Nat} (h : RowO C o L n c es) : L.length = n * es := by
  obtain ⟨pre, sp, suf, rfl, _, hr, h1, h2⟩ := h.ex
  exact hr.len
theorem RowO.at_ {C : List Value} {o : Nat} {L : List Value} {n c es : Nat} (h : RowO C o L n c es) : List.take (n * es) (List.drop o C) = L := by
  obtain ⟨pre, sp, suf, rfl, rfl, hr, h1, h2⟩ := h.ex
  rw [List.append_assoc, List.append_assoc, List.drop_left, ← hr.len, List.take_left]
theorem run_append_room_off {P : Program} {w : World} (t ty e : TypeId) (i : TypeInfo) (ht : P.underlying t = some (.slice e)) (hi : P.info? e = some i)
    (g o sLen sCap : Nat) (cur : Array Value) (hg : w.heap[g]? = some (.cells cur e (0, 0)))
    (a : Addr) (m c : Nat) (news : List Value) (hl : news.length = m * i.size) (hnews : ∀ j u, news[j]? = some u → w.cell? (a.add j) = some u) (h1 : ∀ u ∈ news, u.oneCell' = true)
    (hroom : sLen + m ≤ sCap) (hfit : o + sLen * i.size + news.length ≤ cur.size) :
    (Builtin.append_ #[t, t] ty #[.slice (some ⟨g, o, none⟩) sLen sCap, .slice (some a) m c]).run P w =
      .ok (.slice (some ⟨g, o, none⟩) (sLen + m) sCap) (w.setRow g (cur.toList.take (o + sLen * i.size) ++ news ++ cur.toList.drop (o + sLen * i.size + news.length)).toArray) := by
  have hf := run_firstCells_some (P := P) w i.size m a m c news hl hnews
  have hst := run_storeCells_at P g (o + sLen * i.size) e news 0 cur w hg (by simpa using hfit) h1
  simp only [Nat.add_zero] at hst
  simp [Builtin.append_, run_underlying ht, sizeOf, typeInfo, hi, Builtin.lenOf, hroom, hf, Addr.add_lit, hst]
theorem app_off {P : Program} {t e es by_ : Nat} {z : List Value} {mem : Mem} {K : Value → Mem → Prop} {b o n c m b2 off c2 : Nat} {C L news : List Value} {blk2 : Blk}
    (hrow : RowO C o L n c es) (hb : mem[b]? = some (C, some e)) (hb2 : mem[b2]? = some blk2) (hn : List.take (m * es) (List.drop off blk2.1) = news) (hl : news.length = m * es) (hp : Plain news)
    (hz : allL plain0 z = true) (hzl : z.length = es) (he : 0 < es) (hby : (n + m) * by_ ≤ 140737488355328) (h63 : n + m ≤ 140737488355328)
    (h1 : n + m ≤ c → ∀ C', RowO C' o (L ++ news) (n + m) c es → K (.slice (some ⟨b, o, none⟩) (n + m) c) (setM mem b (C', some e)))
    (h2 : c < n + m → ∀ c' C', RowO C' 0 (L ++ news) (n + m) c' es → K (.slice (some ⟨mem.length, 0, none⟩) (n + m) c') (mem ++ [(C', some e)])) :
    AppK P t e es by_ z [.slice (some ⟨b, o, none⟩) n c, .slice (some ⟨b2, off, none⟩) m c2] mem K := by
  obtain ⟨pre, sp, suf, rfl, rfl, hrow, hpre, hsuf⟩ := hrow.ex
  refine ⟨fun i zv ht hi hiz hsz hbs hzv w0 ρ w ty hm hok => ?_⟩
  subst hsz hbs
  obtain ⟨hown, _⟩ := hm.own b _ e hb
  have hpl : Plain (pre ++ (L ++ sp) ++ suf) := (hpre.app (hrow.pl.app hrow.ps)).app hsuf
  rw [hpl.map] at hown
  have hnews : ∀ j u, news[j]? = some u → w.cell? ((⟨ρ.getD b2 0, off, none⟩ : Addr).add j) = some u := fun j u hu => by
    have h3 := take_drop_at hn hu
    obtain ⟨h4, _⟩ := hm.cell hb2 h3 (plain0_wild (hp u (List.mem_of_getElem? hu)))
    rw [(plain0_ok (hp u (List.mem_of_getElem? hu)) 0 ρ).2] at h4
    rw [Addr.add_lit]
    exact h4
  have hargs : ([Value.slice (some ⟨b, pre.length, none⟩) n c, .slice (some ⟨b2, off, none⟩) m c2].map (conc ρ)).toArray = #[.slice (some ⟨ρ.getD b 0, pre.length, none⟩) n c, .slice (some ⟨ρ.getD b2 0, off, none⟩) m c2] := rfl
  rw [hargs]
  have hlen : (L ++ news).length = (n + m) * i.size := by rw [List.length_append, hrow.len, hl, Nat.add_mul]
  by_cases hroom : n + m ≤ c
  · have hle : (n + m) * i.size ≤ c * i.size := Nat.mul_le_mul_right _ hroom
    have hcap := hrow.cap
    have hL := hrow.len
    rw [Nat.add_mul] at hle
    have hr := run_append_room_off (P := P) (w := w) t ty e i ht hi (ρ.getD b 0) pre.length n c (pre ++ (L ++ sp) ++ suf).toArray hown ⟨ρ.getD b2 0, off, none⟩ m c2 news hl hnews (fun u hu => by
      have := hp u hu
      cases u <;> first | rfl | cases this) hroom (by simp; omega)
    have hcs : (pre ++ (L ++ sp) ++ suf).toArray.toList.take (pre.length + n * i.size) ++ news ++ (pre ++ (L ++ sp) ++ suf).toArray.toList.drop (pre.length + n * i.size + news.length) = pre ++ (L ++ news ++ sp.drop news.length) ++ suf := by
      rw [← hL]
      show List.take (pre.length + L.length) (pre ++ (L ++ sp) ++ suf) ++ news ++ List.drop (pre.length + L.length + news.length) (pre ++ (L ++ sp) ++ suf) = _
      rw [show pre ++ (L ++ sp) ++ suf = (pre ++ L) ++ (sp ++ suf) by simp]
      rw [show pre.length + L.length = (pre ++ L).length by simp, List.take_left, ← List.drop_drop, List.drop_left, List.drop_append_of_le_length (by omega)]
      simp
    rw [hcs, setRow_upd hown] at hr
    have hrow' : Row (L ++ news) (sp.drop news.length) (n + m) c i.size := ⟨hlen, by rw [hlen, List.length_drop]; simp only [Nat.add_mul]; omega, hrow.pl.app hp, hrow.ps.drop _⟩
    have hpl' : Plain (pre ++ (L ++ news ++ sp.drop news.length) ++ suf) := (hpre.app (hrow'.pl.app hrow'.ps)).app hsuf
    refine ⟨_, .slice (some ⟨b, pre.length, none⟩) (n + m) c, _, [], by rw [List.append_nil]; exact hr, ?_, ?_, h1 hroom _ ⟨pre, _, suf, rfl, rfl, hrow', hpre, hsuf⟩⟩
    · rw [List.append_nil]
      exact hok (.slice (some ⟨b, pre.length, none⟩) n c) (List.mem_cons_self)
    · rw [List.append_nil, setM_eq]
      have := hm.store hb (cs' := pre ++ (L ++ news ++ sp.drop news.length) ++ suf) (hpl'.ok _)
      rw [hpl'.map] at this
      exact this
  · have hr := run_append_grow (P := P) w t ty e i zv ht hi hiz ⟨ρ.getD b 0, pre.length, none⟩ n c L hrow.len (fun j u hu => by
        have hu' : (pre ++ (L ++ sp) ++ suf)[pre.length + j]? = some u := by
          rw [List.append_assoc, List.getElem?_append_right (by omega), Nat.add_sub_cancel_left, List.append_assoc, List.getElem?_append_left (getElem?_len hu)]; exact hu
        obtain ⟨h4, _⟩ := hm.cell hb hu' (plain0_wild (hrow.pl u (List.mem_of_getElem? hu)))
        rw [(plain0_ok (hrow.pl u (List.mem_of_getElem? hu)) 0 ρ).2] at h4
        rw [Addr.add_lit]
        exact h4) ⟨ρ.getD b2 0, off, none⟩ m c2 news hl hnews (by omega) (by omega) (growslice_fits (by omega) hby)
    have hge := grownCap_ge w (n + m) c e
    have hzp := zeroCells_plain (Plain.of hz) hzv (by omega) (grownCap w (n + m) c e - (n + m))
    have hrow' : Row (L ++ news) (Builtin.zeroCells zv.cells (grownCap w (n + m) c e - (n + m))).toList (n + m) (grownCap w (n + m) c e) i.size := ⟨hlen, by
      have hzs : zv.cells.size = i.size := by rw [← hzl, ← hzv]; simp
      rw [hlen, Array.length_toList, size_zeroCells, hzs, ← Nat.add_mul]
      congr 1
      omega, hrow.pl.app hp, hzp⟩
    have hpl' : Plain (L ++ news ++ (Builtin.zeroCells zv.cells (grownCap w (n + m) c e - (n + m))).toList) := hrow'.pl.app hrow'.ps
    have hal := (hm.drew (w.drawn + 1)).alloc (hpl'.ok _) e
    refine ⟨w.drew.alloc (.cells (L.toArray ++ news.toArray ++ Builtin.zeroCells zv.cells (grownCap w (n + m) c e - (n + m))) e), .slice (some ⟨mem.length, 0, none⟩) (n + m) (grownCap w (n + m) c e), mem ++ [(L ++ news ++ (Builtin.zeroCells zv.cells (grownCap w (n + m) c e - (n + m))).toList, some e)], [w.heap.size], ?_, ?_, ?_, h2 (by omega) _ _ (RowO.of hrow')⟩
    · rw [hr]
      have hv : conc (ρ ++ [w.heap.size]) (.slice (some ⟨mem.length, 0, none⟩) (n + m) (grownCap w (n + m) c e)) = .slice (some ⟨w.heap.size, 0, none⟩) (n + m) (grownCap w (n + m) c e) := by
        simp only [conc, conc1, conc0, cAddr, ← hm.len, getD_new]
      rw [hv]
    · simp [ok2, ok1, ok0, ← hm.len]
    · rw [hpl'.map] at hal
      have e1 : (L ++ news ++ (Builtin.zeroCells zv.cells (grownCap w (n + m) c e - (n + m))).toList).toArray = L.toArray ++ news.toArray ++ Builtin.zeroCells zv.cells (grownCap w (n + m) c e - (n + m)) := by
        apply Array.ext'
        simp
      rw [e1] at hal
      exact hal

/-! ### clear -/
structure ClrK (P : Program) (t e es : Nat) (z : List Value) (vs : List Value) (mem : Mem) (K : Mem → Prop) : Prop where
  run : ∀ (i : TypeInfo) (zv : Value), P.underlying t = some (.slice e) → P.info? e = some i → i.zero = some zv → i.size = es → zv.cells.toList = z →
    ∀ w0 ρ w ty, MemAt w0 ρ mem w → (∀ v ∈ vs, ok2 ρ.length v) →
    ∃ w' mem', (Builtin.clear_ #[t] ty (vs.map (conc ρ)).toArray).run P w = .ok (.tuple #[]) w' ∧ MemAt w0 ρ mem' w' ∧ K mem'
theorem clr_row {P : Program} {t e es : Nat} {z : List Value} {mem : Mem} {K : Mem → Prop} {b off n c : Nat} {C : List Value}
    (hb : mem[b]? = some (C, some e)) (hC : Plain C) (hfit : off + n * es ≤ C.length) (hz : allL plain0 z = true) (hzl : z.length = es) (he : 0 < es)
    (h : ∀ Z, Plain Z → Z.length = n * es → K (setM mem b (C.take off ++ Z ++ C.drop (off + n * es), some e))) :
    ClrK P t e es z [.slice (some ⟨b, off, none⟩) n c] mem K := by
  refine ⟨fun i zv ht hi hiz hsz hzv w0 ρ w ty hm hok => ?_⟩
  subst hsz
  obtain ⟨hown, _⟩ := hm.own b _ e hb
  rw [hC.map] at hown
  have hargs : ([Value.slice (some ⟨b, off, none⟩) n c].map (conc ρ)).toArray = #[.slice (some ⟨ρ.getD b 0, off, none⟩) n c] := rfl
  rw [hargs]
  have hzp := zeroCells_plain (Plain.of hz) hzv (by omega) n
  have hzs : zv.cells.size = i.size := by rw [← hzl, ← hzv]; simp
  have hlen : (Builtin.zeroCells zv.cells n).toList.length = n * i.size := by rw [Array.length_toList, size_zeroCells, hzs]
  by_cases hn : n = 0
  · subst hn
    refine ⟨w, mem, ?_, hm, ?_⟩
    · simp [Builtin.clear_, run_underlying ht]
    · have := h [] (fun _ hv => by cases hv) (by simp)
      have e1 : setM mem b (C.take off ++ [] ++ C.drop (off + 0 * i.size), some e) = mem := by
        rw [setM_eq]
        apply List.ext_getElem?
        intro j
        rw [List.getElem?_set]
        split
        · rename_i hj
          subst hj
          rw [hb, if_pos (List.getElem?_eq_some_iff.1 hb).1]
          simp
        · rfl
      rw [e1] at this
      exact this
  · have hst := run_storeCells_at P (ρ.getD b 0) off e (Builtin.zeroCells zv.cells n).toList 0 C.toArray w hown (by rw [hlen]; simpa using hfit) (fun u hu => by
      have := hzp u hu
      cases u <;> first | rfl | cases this)
    rw [hlen] at hst
    simp only [Nat.add_zero] at hst
    have hpl' : Plain (C.take off ++ (Builtin.zeroCells zv.cells n).toList ++ C.drop (off + n * i.size)) := ((hC.take _).app hzp).app (hC.drop _)
    rw [setRow_upd hown] at hst
    refine ⟨upd w (ρ.getD b 0) (.cells (C.take off ++ (Builtin.zeroCells zv.cells n).toList ++ C.drop (off + n * i.size)).toArray e (0, 0)), _, ?_, ?_, h _ hzp hlen⟩
    · obtain ⟨m, rfl⟩ : ∃ m, n = m + 1 := ⟨n - 1, by omega⟩
      have hzr : (zeroValue e).run P w = .ok zv w := by simp [zeroValue, typeInfo, hi, hiz]
      generalize ρ.getD b 0 = B at hst ⊢
      simp only [Builtin.clear_, Sem.run_bind, run_underlying ht, Result.andThen_ok, hzr, hst, Sem.run_pure]
      simp [run_underlying ht, hzr, hst]
    · rw [setM_eq]
      have := hm.store hb (cs' := C.take off ++ (Builtin.zeroCells zv.cells n).toList ++ C.drop (off + n * i.size)) (hpl'.ok _)
      rw [hpl'.map] at this
      exact this

/-! ### append of a string's bytes -/

structure AppS (P : Program) (t t' e es by_ : Nat) (z : List Value) (vs : List Value) (mem : Mem) (K : Value → Mem → Prop) : Prop where
  run : ∀ (i : TypeInfo) (zv : Value), P.underlying t = some (.slice e) → P.underlying t' = some .string → P.info? e = some i → i.zero = some zv → i.size = es → i.bytes = by_ → zv.cells.toList = z →
    ∀ w0 ρ w ty, MemAt w0 ρ mem w → (∀ v ∈ vs, ok2 ρ.length v) →
    ∃ w' v mem' σ, (Builtin.append_ #[t, t'] ty (vs.map (conc ρ)).toArray).run P w = .ok (conc (ρ ++ σ) v) w' ∧ ok2 (ρ ++ σ).length v ∧ MemAt w0 (ρ ++ σ) mem' w' ∧ K v mem'

theorem str_plain (s : ByteArray) : Plain (Lib.strCells s) := fun v hv => by
  simp only [Lib.strCells, List.mem_map] at hv
  obtain ⟨b, _, rfl⟩ := hv
  rfl

theorem app_str {P : Program} {t t' e by_ : Nat} {z : List Value} {mem : Mem} {K : Value → Mem → Prop} {b n c : Nat} {L sp : List Value} {s : ByteArray}
    (hrow : Row L sp n c 1) (hb : mem[b]? = some (L ++ sp, some e)) (hz : allL plain0 z = true) (hzl : z.length = 1) (hby : (n + s.size) * by_ ≤ 140737488355328) (h63 : n + s.size ≤ 140737488355328)
    (h1 : n + s.size ≤ c → ∀ sp', Row (L ++ Lib.strCells s) sp' (n + s.size) c 1 → K (.slice (some ⟨b, 0, none⟩) (n + s.size) c) (setM mem b (L ++ Lib.strCells s ++ sp', some e)))
    (h2 : c < n + s.size → ∀ c' sp', Row (L ++ Lib.strCells s) sp' (n + s.size) c' 1 → K (.slice (some ⟨mem.length, 0, none⟩) (n + s.size) c') (mem ++ [(L ++ Lib.strCells s ++ sp', some e)])) :
    AppS P t t' e 1 by_ z [.slice (some ⟨b, 0, none⟩) n c, .string s] mem K := by
  refine ⟨fun i zv ht ht' hi hiz hsz hbs hzv w0 ρ w ty hm hok => ?_⟩
  subst hbs
  obtain ⟨hown, _⟩ := hm.own b _ e hb
  have hpl : Plain (L ++ sp) := hrow.pl.app hrow.ps
  rw [hpl.map] at hown
  have hp := str_plain s
  have hl := Lib.strCells_length s
  have hargs : ([Value.slice (some ⟨b, 0, none⟩) n c, .string s].map (conc ρ)).toArray = #[.slice (some ⟨ρ.getD b 0, 0, none⟩) n c, .string s] := rfl
  rw [hargs]
  have hL := hrow.len
  have hlen : (L ++ Lib.strCells s).length = (n + s.size) * 1 := by rw [List.length_append, hL, hl, Nat.mul_one, Nat.mul_one]
  have hcap := hrow.cap
  by_cases hroom : n + s.size ≤ c
  · have hr := Lib.run_append_room_string (P := P) w t t' ty e i ht ht' hi hsz (ρ.getD b 0) n c (L ++ sp).toArray hown s hroom (by simp; omega)
    have hcs : (L ++ sp).toArray.toList.take n ++ Lib.strCells s ++ (L ++ sp).toArray.toList.drop (n + s.size) = L ++ Lib.strCells s ++ sp.drop s.size := by
      have : n = L.length := by omega
      subst this
      simp [List.drop_append]
    rw [hcs, setRow_upd hown] at hr
    have hrow' : Row (L ++ Lib.strCells s) (sp.drop s.size) (n + s.size) c 1 := ⟨hlen, by rw [hlen, List.length_drop]; omega, hrow.pl.app hp, hrow.ps.drop _⟩
    have hpl' : Plain (L ++ Lib.strCells s ++ sp.drop s.size) := hrow'.pl.app hrow'.ps
    refine ⟨_, .slice (some ⟨b, 0, none⟩) (n + s.size) c, _, [], by rw [List.append_nil]; exact hr, ?_, ?_, h1 hroom _ hrow'⟩
    · rw [List.append_nil]
      exact hok (.slice (some ⟨b, 0, none⟩) n c) (List.mem_cons_self)
    · rw [List.append_nil, setM_eq]
      have := hm.store hb (cs' := L ++ Lib.strCells s ++ sp.drop s.size) (hpl'.ok _)
      rw [hpl'.map] at this
      exact this
  · have hr := Lib.run_append_grow_string (P := P) w t t' ty e i zv ht ht' hi hiz ⟨ρ.getD b 0, 0, none⟩ n c L (by rw [hsz]; exact hL) (fun j u hu => by
        have hu' : (L ++ sp)[j]? = some u := by rw [List.getElem?_append_left (getElem?_len hu)]; exact hu
        obtain ⟨h4, _⟩ := hm.cell hb hu' (plain0_wild (hrow.pl u (List.mem_of_getElem? hu)))
        rw [(plain0_ok (hrow.pl u (List.mem_of_getElem? hu)) 0 ρ).2] at h4
        rw [Addr.add_lit, Nat.zero_add]
        exact h4) s (by omega) (by omega) (growslice_fits (by omega) hby)
    have hge := grownCap_ge w (n + s.size) c e
    have hzp := zeroCells_plain (Plain.of hz) hzv (by omega) (grownCap w (n + s.size) c e - (n + s.size))
    have hrow' : Row (L ++ Lib.strCells s) (Builtin.zeroCells zv.cells (grownCap w (n + s.size) c e - (n + s.size))).toList (n + s.size) (grownCap w (n + s.size) c e) 1 := ⟨hlen, by
      have hzs : zv.cells.size = 1 := by rw [← hzl, ← hzv]; simp
      rw [hlen, Array.length_toList, size_zeroCells, hzs]
      omega, hrow.pl.app hp, hzp⟩
    have hpl' : Plain (L ++ Lib.strCells s ++ (Builtin.zeroCells zv.cells (grownCap w (n + s.size) c e - (n + s.size))).toList) := hrow'.pl.app hrow'.ps
    have hal := (hm.drew (w.drawn + 1)).alloc (hpl'.ok _) e
    refine ⟨w.drew.alloc (.cells (L.toArray ++ (Lib.strCells s).toArray ++ Builtin.zeroCells zv.cells (grownCap w (n + s.size) c e - (n + s.size))) e), .slice (some ⟨mem.length, 0, none⟩) (n + s.size) (grownCap w (n + s.size) c e), mem ++ [(L ++ Lib.strCells s ++ (Builtin.zeroCells zv.cells (grownCap w (n + s.size) c e - (n + s.size))).toList, some e)], [w.heap.size], ?_, ?_, ?_, h2 (by omega) _ _ hrow'⟩
    · rw [hr]
      have hv : conc (ρ ++ [w.heap.size]) (.slice (some ⟨mem.length, 0, none⟩) (n + s.size) (grownCap w (n + s.size) c e)) = .slice (some ⟨w.heap.size, 0, none⟩) (n + s.size) (grownCap w (n + s.size) c e) := by
        simp only [conc, conc1, conc0, cAddr, ← hm.len, getD_new]
      rw [hv]
    · simp [ok2, ok1, ok0, ← hm.len]
    · rw [hpl'.map] at hal
      have e1 : (L ++ Lib.strCells s ++ (Builtin.zeroCells zv.cells (grownCap w (n + s.size) c e - (n + s.size))).toList).toArray = L.toArray ++ (Lib.strCells s).toArray ++ Builtin.zeroCells zv.cells (grownCap w (n + s.size) c e - (n + s.size)) := by
        apply Array.ext'
        simp
      rw [e1] at hal
      exact hal

/-- append of a string's bytes to nil. -/
theorem app_str0 {P : Program} {t t' e by_ : Nat} {z : List Value} {mem : Mem} {K : Value → Mem → Prop} {s : ByteArray} (hz : z = [.int .u8 0]) (hby : by_ = 1) (h0 : 0 < s.size) (h63 : s.size ≤ 1048576)
    (h2 : ∀ c' sp', Row (Lib.strCells s) sp' s.size c' 1 → K (.slice (some ⟨mem.length, 0, none⟩) s.size c') (mem ++ [(Lib.strCells s ++ sp', some e)])) :
    AppS P t t' e 1 by_ z [.slice none 0 0, .string s] mem K := by
  refine ⟨fun i zv ht ht' hi hiz hsz hbs hzv w0 ρ w ty hm hok => ?_⟩
  subst hbs
  have hr : (Builtin.append_ #[t, t'] ty #[.slice none 0 0, .string s]).run P w = .ok (.slice (some ⟨w.heap.size, 0, none⟩) s.size (grownCap w s.size 0 e))
        (w.drew.alloc (.cells ((Lib.strCells s).toArray ++ Builtin.zeroCells zv.cells (grownCap w s.size 0 e - s.size)) e)) := by
    have hn : ¬ (s.size ≤ 0) := by omega
    have h63' : ¬ (9223372036854775807 < (s.size : Int)) := by omega
    have h48' : ¬ (281474976710656 < Builtin.nextslicecap s.size 0 * i.bytes) := by
      have := growslice_fits (need := s.size) (old := 0) (bytes := i.bytes) (by omega) (by rw [hby]; omega)
      omega
    have hf := Lib.run_firstCells_string (P := P) w.drew i.size s
    have hf0 : ∀ q, (Builtin.firstCells i.size 0 (.slice none 0 q)).run P w.drew = .ok #[] w.drew := fun q => by simp [Builtin.firstCells]
    have hne : ¬ s = ByteArray.empty := fun he => by rw [he] at h0; exact absurd h0 (by decide)
    simp [Builtin.append_, run_underlying ht, run_underlying ht', sizeOf, typeInfo, zeroValue, hi, hiz, Builtin.lenOf, hn, h63', h48', Question.forced, hf, hf0, hne, newRow, grownCap]
  have hargs : ([Value.slice none 0 0, .string s].map (conc ρ)).toArray = #[.slice none 0 0, .string s] := rfl
  rw [hargs, hr]
  have hp := str_plain s
  have hl := Lib.strCells_length s
  have hge := grownCap_ge w s.size 0 e
  have hzp := zeroCells_plain (z := z) (Plain.of (by rw [hz]; rfl)) hzv (by rw [hz]; simp) (grownCap w s.size 0 e - s.size)
  have hzs : zv.cells.size = 1 := by have := congrArg List.length hzv; rw [hz] at this; simpa using this
  have hrow' : Row (Lib.strCells s) (Builtin.zeroCells zv.cells (grownCap w s.size 0 e - s.size)).toList s.size (grownCap w s.size 0 e) 1 := ⟨by rw [hl, Nat.mul_one], by
      rw [hl, Array.length_toList, size_zeroCells, hzs]
      omega, hp, hzp⟩
  have hpl' : Plain (Lib.strCells s ++ (Builtin.zeroCells zv.cells (grownCap w s.size 0 e - s.size)).toList) := hrow'.pl.app hrow'.ps
  have hal := (hm.drew (w.drawn + 1)).alloc (hpl'.ok _) e
  refine ⟨w.drew.alloc (.cells ((Lib.strCells s).toArray ++ Builtin.zeroCells zv.cells (grownCap w s.size 0 e - s.size)) e), .slice (some ⟨mem.length, 0, none⟩) s.size (grownCap w s.size 0 e), mem ++ [(Lib.strCells s ++ (Builtin.zeroCells zv.cells (grownCap w s.size 0 e - s.size)).toList, some e)], [w.heap.size], ?_, ?_, ?_, h2 _ _ hrow'⟩
  · have hv : conc (ρ ++ [w.heap.size]) (.slice (some ⟨mem.length, 0, none⟩) s.size (grownCap w s.size 0 e)) = .slice (some ⟨w.heap.size, 0, none⟩) s.size (grownCap w s.size 0 e) := by
      simp only [conc, conc1, conc0, cAddr, ← hm.len, getD_new]
    rw [hv]
  · simp [ok2, ok1, ok0, ← hm.len]
  · rw [hpl'.map] at hal
    have e1 : (Lib.strCells s ++ (Builtin.zeroCells zv.cells (grownCap w s.size 0 e - s.size)).toList).toArray = (Lib.strCells s).toArray ++ Builtin.zeroCells zv.cells (grownCap w s.size 0 e - s.size) := by
      apply Array.ext'
      simp
    rw [e1] at hal
    exact hal

/-! ### append of what make makes -/

structure AppZ (P : Program) (t t' e es by_ : Nat) (z : List Value) (vs : List Value) (mem : Mem) (K : Value → Mem → Prop) : Prop where
  run : ∀ (i : TypeInfo) (zv : Value), P.underlying t = some (.slice e) → P.underlying t' = some (.int .i64) → P.info? e = some i → i.zero = some zv → i.size = es → i.bytes = by_ → zv.cells.toList = z →
    ∀ w0 ρ w ty, MemAt w0 ρ mem w → (∀ v ∈ vs, ok2 ρ.length v) →
    ∃ w' v mem' σ, (Builtin.append_ #[t, t'] ty (vs.map (conc ρ)).toArray).run P w = .ok (conc (ρ ++ σ) v) w' ∧ ok2 (ρ ++ σ).length v ∧ MemAt w0 (ρ ++ σ) mem' w' ∧ K v mem'

/-- n zeros put behind nil. -/
theorem app_zeros0 {P : Program} {t t' e es by_ : Nat} {z : List Value} {mem : Mem} {K : Value → Mem → Prop} {n : Int} {m : Nat} (hm : n = (m : Int)) (hz : allL plain0 z = true) (hzl : z.length = es) (he : 0 < es) (h0 : 0 < m) (h63 : m ≤ 9223372036854775807) (hby : m * by_ ≤ 281474976710656)
    (h2 : ∀ c' sp', sp'.length = c' * es → Plain sp' → m ≤ c' → K (.slice (some ⟨mem.length, 0, none⟩) m c') (mem ++ [(sp', some e)])) :
    AppZ P t t' e es by_ z [.slice none 0 0, .int .i64 n] mem K := by
  refine ⟨fun i zv ht ht' hi hiz hsz hbs hzv w0 ρ w ty hmem hok => ?_⟩
  subst hsz hbs hm
  have hr := Lib.run_append_nil_zeros (P := P) w t t' ty e i zv .i64 .i64 ht ht' hi hiz m h0 he (by omega) hby
  have hargs : ([Value.slice none 0 0, .int .i64 (m : Int)].map (conc ρ)).toArray = #[.slice none 0 0, .int .i64 (m : Int)] := rfl
  rw [hargs, hr]
  have hge := grownCap_ge w m 0 e
  have hzs : zv.cells.size = i.size := by rw [← hzl, ← hzv]; simp
  have hp1 := zeroCells_plain (Plain.of hz) hzv (by omega) m
  have hp2 := zeroCells_plain (Plain.of hz) hzv (by omega) (grownCap w m 0 e - m)
  have hpl : Plain ((Builtin.zeroCells zv.cells m).toList ++ (Builtin.zeroCells zv.cells (grownCap w m 0 e - m)).toList) := hp1.app hp2
  have hal := (hmem.drew (w.drawn + 1)).alloc (hpl.ok _) e
  refine ⟨w.drew.alloc (.cells (Builtin.zeroCells zv.cells m ++ Builtin.zeroCells zv.cells (grownCap w m 0 e - m)) e), .slice (some ⟨mem.length, 0, none⟩) m (grownCap w m 0 e), mem ++ [((Builtin.zeroCells zv.cells m).toList ++ (Builtin.zeroCells zv.cells (grownCap w m 0 e - m)).toList, some e)], [w.heap.size], ?_, ?_, ?_, h2 _ _ ?_ hpl hge⟩
  · have hv : conc (ρ ++ [w.heap.size]) (.slice (some ⟨mem.length, 0, none⟩) m (grownCap w m 0 e)) = .slice (some ⟨w.heap.size, 0, none⟩) m (grownCap w m 0 e) := by
      simp only [conc, conc1, conc0, cAddr, ← hmem.len, getD_new]
    rw [hv]
  · simp [ok2, ok1, ok0, ← hmem.len]
  · rw [hpl.map] at hal
    have e1 : ((Builtin.zeroCells zv.cells m).toList ++ (Builtin.zeroCells zv.cells (grownCap w m 0 e - m)).toList).toArray = Builtin.zeroCells zv.cells m ++ Builtin.zeroCells zv.cells (grownCap w m 0 e - m) := by
      apply Array.ext'
      simp
    rw [e1] at hal
    exact hal
  · rw [List.length_append, Array.length_toList, Array.length_toList, size_zeroCells, size_zeroCells, hzs, ← Nat.add_mul]
    congr 1
    omega

end Go.Ev
