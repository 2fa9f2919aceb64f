/-
  Contracts of functions of the program (printed by a program of this work; Lean checks each).
  Conditions: as each contract states.
-/
import Derived.Test.YtnjepaboecijcaaK92
import Derived.Test.YtnjepaboecijcaaArp
namespace Go.Proofs.Ytnjepaboecijcaa
open Go.Ev Go.RowKit
open Go.Shelf
set_option maxRecDepth 100000
set_option linter.unusedVariables false
set_option linter.unusedSimpArgs false

attribute [local irreducible] isPtF isFracF plusF detF turnX turnY mateX mateY movX movY levL gnx chn

def rgH (c : Code) : List Oper := match c with
  | .seq (.seq (.region _ ops _) _) _ => ops.toList
  | _ => []
def rgZ (c : Code) : List Oper := match c with
  | .seq _ (.seq (.region _ ops _) _) => ops.toList
  | _ => []
theorem geoT_eq : geoT = .seq (.seq (.region 15 (rgH geoT).toArray false) (.block 2 (.rangeFunc (.tmp 57) #[58, 59] (rgA geoT) (rgB geoT)))) (.seq (.region 21 (rgZ geoT).toArray false) .ret) := by kernel_rfl
theorem rgH_eq : ∃ o1 o2, rgH geoT = [o1, o2] ∧ o1.op = .move (.tmp 8) ∧ o1.dst = some 56 ∧ o1.guard = none ∧ o2.op = .call { callee := .value (.func 69), args := #[.tmp 56], argTypes := #[31] } ∧ o2.dst = some 57 ∧ o2.guard = none := ⟨_, _, rfl, rfl, rfl, rfl, rfl, rfl, rfl⟩
theorem rgA_ok : rOk (rgA geoT) = true := by kernel_rfl
theorem rgB_ok : rOk (rgB geoT) = true := by kernel_rfl
theorem rgZ_ok : lsAll (rgZ geoT) = true := by kernel_rfl
theorem list7 {ρ : List Nat} (h : ρ.length = 7) : ∃ r0 r1 r2 r3 r4 r5 r6, ρ = [r0, r1, r2, r3, r4, r5, r6] := by
  match ρ, h with
  | [r0, r1, r2, r3, r4, r5, r6], _ => exact ⟨r0, r1, r2, r3, r4, r5, r6, rfl⟩
theorem list1 {ρ : List Nat} (h : ρ.length = 1) : ∃ r, ρ = [r] := by
  match ρ, h with
  | [r], _ => exact ⟨r, rfl⟩
abbrev gO (a b : Int) (pre : List (Nat × (Int × Int))) : List (Int × Int) := (pre.map Prod.snd).map (gbk a b)
def tmIn : List Value := [wild, wild, .pointer (some ⟨0, 0, none⟩), wild, .pointer (some ⟨1, 0, none⟩), .pointer (some ⟨2, 0, none⟩), wild, wild, wild, wild, wild, wild, .pointer (some ⟨4, 0, none⟩), .pointer (some ⟨5, 0, none⟩), wild, wild, wild, wild, wild, wild, wild, wild, wild, wild, wild, wild, wild, wild, wild, wild, wild, wild, wild, wild, wild, wild, wild, wild, wild, wild, wild, wild, wild, wild, wild, wild, wild, wild, wild, wild, wild, wild, wild, wild, wild, wild, wild, wild, wild, wild, wild, wild, wild, wild, wild, wild, wild, wild, wild, wild, wild, wild, wild, wild, wild, wild, wild, wild, wild, wild, wild, wild]

theorem pl_cells {W : World} {b : Nat} {Z : List (Int × Int)} {sz : List Value} (h : W.heap[b]? = some (.cells (pl Z ++ sz).toArray 23 (0, 0))) (j : Nat) (hj : j < Z.length) :
    W.cell? ⟨b, j * 2, none⟩ = some (.int .i64 (Z.getD j (0, 0)).1) ∧ W.cell? ⟨b, j * 2 + 1, none⟩ = some (.int .i64 (Z.getD j (0, 0)).2) := by
  obtain ⟨h1, h2⟩ := pl_get Z j hj
  rw [Lib.cell_of_heap h, Lib.cell_of_heap h]
  simp only [List.getElem?_toArray]
  rw [List.getElem?_append_left (getElem?_len h1), List.getElem?_append_left (getElem?_len h2)]
  exact ⟨h1, h2⟩

theorem geo_fin {a b : Int} {Z O : List (Int × Int)} {sz so : List Value} {n k : Nat}  : evOps Try.prog tbl (rgZ geoT) (rgZ geoT) tmIn (geoMem a b Z sz O so n k) (fun tm mem => outK tbl Try.f30.results.toList tm mem (fun v => v = t2 (.slice (some ⟨6, 0, none⟩) n k) (ii 0)) ∧ mem = [([ii a, ii b], some t_impl_Point), ([.slice (some ⟨6, 0, none⟩) n k], some 31), ([ii 0], some 2), (pl Z ++ sz, some t_impl_Point), ([ii (mateX a b), ii (mateY a b)], some t_impl_Point), ([.slice (some ⟨6, 0, none⟩) n k], some 31), (pl O ++ so, some t_impl_Point)]) := by
  
  conv => whnf
  all_goals (repeat' first
    | (refine ⟨?_, rfl⟩; conv => whnf)
    | (refine StoreK.mk rfl ?_; conv => whnf)
    | exact join_same
    | exact (by assumption : (_ : Bool) = (_ : Bool))
    | (refine br_true (by assumption) ?_; conv => whnf)
    | (refine br_false (by assumption) ?_; conv => whnf)
    | (refine br_not ?_; conv => whnf)
    | (refine br_code ?_; conv => whnf)
    | (with_reducible refine br_and ?_; conv => whnf)
    | (with_reducible refine br_or ?_; conv => whnf)
    | (refine br_eq2 ?_; conv => whnf)
    | (refine (c_led_ok ?_ ?_ ?_).call ?_ <;> conv => whnf)
    | (refine (c_led_ok ?_ ?_ ?_).quiet ?_ <;> conv => whnf)
    | (refine (c_led_no3 ?_ ?_ ?_).call ?_ <;> conv => whnf)
    | (refine (c_led_no3 ?_ ?_ ?_).quiet ?_ <;> conv => whnf)
    | (refine (c_led_no2 ?_ ?_).call ?_ <;> conv => whnf)
    | (refine (c_led_no2 ?_ ?_).quiet ?_ <;> conv => whnf)
    | (refine (c_led_no1 ?_).call ?_ <;> conv => whnf)
    | (refine (c_led_no1 ?_).quiet ?_ <;> conv => whnf)
    | (refine (c_impl_Point_parents ?_).call ?_ <;> conv => whnf)
    | (refine (c_impl_Point_parents ?_).quiet ?_ <;> conv => whnf)
    | (refine (c_level ?_).call ?_ <;> conv => whnf)
    | (refine (c_level ?_).quiet ?_ <;> conv => whnf)
    | (refine (c_impl_Point_mate ?_).call ?_ <;> conv => whnf)
    | (refine (c_impl_Point_mate ?_).quiet ?_ <;> conv => whnf)
    | (refine c_impl_Point_plus.call ?_; conv => whnf)
    | (refine c_impl_Point_plus.quiet ?_; conv => whnf)
    | (refine c_impl_Point_fraction.call ?_; conv => whnf)
    | (refine c_impl_Point_fraction.quiet ?_; conv => whnf)
    | (refine c_impl_Point_told.call ?_; conv => whnf)
    | (refine c_impl_Point_told.quiet ?_; conv => whnf)
    | (refine draw_auto (by decide +kernel) ?_; conv => whnf)
    | (refine draw_asg (by decide +kernel) ?_; conv => whnf)
    | (refine draw_st (by decide +kernel) ?_; conv => whnf)
    | (refine draw_call (by decide +kernel) ?_; conv => whnf)
    | (refine enter_same (loop_n 12 ?_); conv => whnf)
    | (refine next_same ?_; conv => whnf)
    | (refine mapK_row (by assumption) ?_; conv => whnf)
    | (refine mapK_plain (Plain.of rfl) ?_; conv => whnf)
    | (refine mapK_lit ?_; conv => whnf)
    | (refine br_split (fun _ => ?_) (fun _ => ?_) <;> conv => whnf)
    | exact (rfl : (_ : Value) = _)
    | (simp only [*]; exact (rfl : (_ : Value) = _))
    | (simp [*]; done))

set_option maxHeartbeats 4000000 in
theorem geo_tail {a b : Int} {Z : List (Int × Int)} {sz : List Value} {n k : Nat} {w0 : Base} {ρ : List Nat} {A : Act} {w : World} {R : Ending → World → Prop} (hr : Row (pl Z) sz n k 2) (hZ : Z.length ≤ 1000001)
    (hBk : ∀ y ∈ Z, isPtF (gbk a b y).1 (gbk a b y).2 = true) (ha : TmAt ρ (geoTm n k) A) (hm : MemAt w0 ρ (geoMem a b Z sz [] [] 0 0) w)
    (hR : ∀ r so n k W, Row (pl (Z.reverse.map (gbk a b))) so n k 2 → MemAt w0 [r] [(pl (Z.reverse.map (gbk a b)) ++ so, some t_impl_Point)] W → R (.returned (conc [r] (t2 (.slice (some ⟨0, 0, none⟩) n k) (ii 0)))) W) :
    geoT.wpIn Fence.wide 3 Try.prog (bodyPostM Fence.wide 3 Try.prog Try.f30 R) A w := by
  obtain ⟨r0, r1, r2, r3, r4, r5, r6, rfl⟩ := list7 hm.len
  obtain rfl : Z.length = n := row_pl hr
  have hown : ∀ {O : List (Int × Int)} {so : List Value} {n' k' : Nat}, ownAll (geoMem a b Z sz O so n' k') = true := rfl
  have hlt : ∀ x ∈ [r0, r1, r2, r3, r4, r5], x < w.heap.size := fun x hx => hm.lt x (List.mem_append_left [r6] hx)
  rw [geoT_eq]
  obtain ⟨o1, o2, hH, m1, m2, m3, m4, m5, m6⟩ := rgH_eq
  refine wpIn_seq (wpIn_seq (wpIn_wide.2 (wp_region_list ?_)))
  rw [List.toList_toArray, hH]
  have hsz : A.tmps.size = 82 := ha.size
  refine list_move_call m1 m2 m3 m4 m5 m6 ⟨_, Try.func69, rfl, rfl⟩ (by rw [hsz]; omega) (ha.eval 8 rfl).1 ((callsIn_wide.1 (gback_in Fence.wide 2 trivial rfl _ _ _ _)).mono ?_)
  rintro e w1 ⟨rfl, hw1⟩
  refine ⟨_, rfl, ?_⟩
  generalize hfv : Value.func (.func 105) #[] #[.pointer (some ⟨w.heap.size, 0, none⟩)] = fv
  generalize hsl : conc [r0, r1, r2, r3, r4, r5, r6] (nthV (geoTm Z.length k) 8) = sl at hw1 ⊢
  have hsl' : sl = .slice (some ⟨r3, 0, none⟩) Z.length k := hsl.symm
  obtain ⟨a1, ha1e⟩ : ∃ a1, (A.put (some 56) sl).put (some 57) fv = a1 := ⟨_, rfl⟩
  rw [ha1e]
  have ha1 : TmAt [r0, r1, r2, r3, r4, r5, r6] (geoTm Z.length k) a1 := ha1e ▸ (ha.putWild (d := 56) rfl sl).putWild (d := 57) rfl fv
  have ha1f : TmAt [r0, r1, r2, r3, r4, r5] (geoTm Z.length k) a1 := TmAt.forget (ι := [0, 1, 2, 3, 4, 5]) ha1 rfl (tmR_rfl rfl rfl)
  have he57 : a1.eval (.tmp 57) = .func (.func 105) #[] #[.pointer (some ⟨w.heap.size, 0, none⟩)] := by
    rw [← ha1e, hfv]
    simp [Act.eval, Act.put, Array.getD_eq_getD_getElem?, Array.getElem?_setIfInBounds, hsz]
  have hbel : Below w.heap.size w w1 := by rw [hw1]; exact (Below.refl _ _).alloc (Nat.le_refl _) _
  have hw1s : w1.heap.size = w.heap.size + 1 := by rw [hw1]; simp
  have hbs1 : w1.heap[w.heap.size]? = some (.cells #[sl] 31 (0, 0)) := by
    have e : w1 = w.alloc (.cells #[sl] 31) := hw1.trans (by rw [hsl']; rfl)
    rw [e]; exact World.alloc_heap_new w _
  have hm1 : MemAt w0 [r0, r1, r2, r3, r4, r5, r6] (geoMem a b Z sz [] [] 0 0) w1 := hm.below hbel
  have hlist : ∀ {ρ' : List Nat} {O : List (Int × Int)} {so : List Value} {n' k' : Nat} {W : World}, MemAt w0 ρ' (geoMem a b Z sz O so n' k') W → W.heap[ρ'.getD 3 0]? = some (.cells (pl Z ++ sz).toArray 23 (0, 0)) := fun {ρ' O so n' k' W} h => by
    have := (h.own 3 _ t_impl_Point rfl).1
    rwa [(Row.all hr).map] at this
  have hw0 : w0.w.heap.size ≤ w1.heap.size := hm1.size
  show (Code.block 2 (.rangeFunc (.tmp 57) #[58, 59] (rgA geoT) (rgB geoT))).wpIn Fence.wide 3 Try.prog _ a1 w1
  refine wpIn_block (wpIn_rangeFunc_ownH (F := Fence.wide) (n := 3) (a := a1) (w := w1) rfl (by omega) he57 trivial (enters_of Try.func105 (by kernel_rfl) rfl)
    (gback_stops Fence.wide 2 trivial rfl (by omega) w.heap.size r3 k Z (by omega) w1 (by omega) (Nat.lt_trans (hlt r3 (by simp)) (by omega)) (by rw [Lib.cell_of_heap hbs1]; simp [hsl']) (pl_cells (hlist hm1)))
    keepC_t (fun W l o o' _ ho hc _ => keepC_put W l o o' ho hc) (Below.refl _ _) (fun _ => rfl)
    (fun pre W => (∃ ρ' mem, (∃ row so n' k', ρ' = [r0, r1, r2, r3, r4, r5, row] ∧ Row (pl (gO a b pre)) so n' k' 2 ∧ mem = geoMem a b Z sz (gO a b pre) so n' k') ∧ MemAt w0 ρ' mem W) ∧ W.heap[w.heap.size]? = some (.cells #[sl] 31 (0, 0)))
    (fun c pre W => c = .ret ∧ ∃ x ∈ pre, isPtF (gbk a b x.2).1 (gbk a b x.2).2 = false)
    (OwnFrom.and (memAt_ownFrom hw0 _) (Own.from (fun s A W row hs hg hrow => (grownBy_keeps_cells hg hrow hs rfl).trans hs) _)) (fun c => ownFrom_pure _ _) ⟨⟨_, _, ⟨r6, [], 0, 0, rfl, Row.lit rfl rfl, rfl⟩, hm1⟩, hbs1⟩
    (fun x a' W => ∃ yb, w1.heap.size ≤ yb ∧ TmAt [r0, r1, r2, r3, r4, r5] tmIn a' ∧ a'.tmps[15]? = some (.pointer (some ⟨yb, 0, none⟩)) ∧ W.heap[yb]? = some (.cells #[.int .i64 x.2.1, .int .i64 x.2.2] 23 (0, 0)) ∧
      ∃ r n c, r ≠ yb ∧ W.heap[r5]? = some (.cells #[.slice (some ⟨r, 0, none⟩) n c] 31 (0, 0)))
    (fun x a' s A W row ⟨yb, h1, h2, h3, h4, r, n, c, h5, h6⟩ hg hrow => ⟨yb, h1, h2, h3, (grownBy_keeps_cells hg (fun r e => (hrow r e).2) h4 rfl).trans h4, r, n, c, h5, (grownBy_keeps_cells hg (fun r e => (hrow r e).2) h6 rfl).trans h6⟩) ?assign ?body ?done ?stop)
  case assign =>
    rintro l pre ⟨i, p, q⟩ W K ⟨⟨_, _, ⟨row, so, n', k', rfl, hrow, rfl⟩, hI⟩, hbs⟩ hK
    have hltW : ∀ x ∈ [r0, r1, r2, r3, r4, r5], x < W.heap.size := fun x hx => hI.lt x (List.mem_append_left [row] hx)
    have htm := (TmAt.params (p := 58) (q := 59) (u := ii (i : Int)) (v := pt p q) ha1f trivial (fun v hv => by simp at hv; rcases hv with rfl | rfl <;> trivial))
    refine evr_sound good.tbl good.mix (m0 := 6) (ρ0 := [r0, r1, r2, r3, r4, r5]) (w0 := ⟨W, []⟩) rfl _ rgA_ok (geo_assign (p := p) (q := q) (i := (i : Int)) (n := Z.length) (k := k)) (σ := []) (by exact htm) (by exact memAt_dead (ρ := [r0, r1, r2, r3, r4, r5]) hltW) (fun ⟨_, _, h⟩ => h) ?_
    intro e σ tm' mem' a' W' hk ha' hm'
    cases e with
    | normal =>
      obtain ⟨rfl, rfl⟩ := hk
      obtain ⟨yb, rfl⟩ := list1 (ρ := σ) (by have := hm'.len; simp [dead6] at this; omega)
      have hb := hm'.toBelow
      have hy1 := (hm'.own 6 _ t_impl_Point rfl).1
      have hy2 : W.heap.size ≤ yb := by
        rcases hm'.fresh 6 _ t_impl_Point rfl with h | h
        · cases h
        · exact h
      have hI' := hI.below hb
      have hob := (hI'.own 5 _ 31 rfl).1
      refine hK a' W' ⟨hb.size, fun j o _ hj _ => (hb.block j (Array.getElem?_eq_some_iff.1 hj).1).trans hj⟩ (fun x _ j v hv => ?_) ⟨⟨_, _, ⟨row, so, n', k', rfl, hrow, rfl⟩, hI'⟩, (hb.block _ (heap_lt hbs)).trans hbs⟩ ⟨yb, ?_, ?_, ?_, hy1, row, n', k', ?_, hob⟩
      · obtain ⟨o, ho, _⟩ := cells_of_cell hv
        exact (World.cell?_of_block (hb.block _ (heap_lt ho))).trans hv
      · have := hI.size
        have h2 : w1.heap.size ≤ W.heap.size := by
          have h3 := heap_lt hbs
          omega
        omega
      · exact TmAt.forget (ι := [0, 1, 2, 3, 4, 5]) ha' rfl (tmR_rfl rfl rfl)
      · exact (ha'.get 15 _ rfl rfl).1
      · have := hI.lt row (by simp)
        omega
    | _ => exact (hk : False).elim
  case body =>
    rintro l pre ⟨i, p, q⟩ a' W _ _ ⟨⟨_, _, ⟨row, so, n', k', rfl, hrow, rfl⟩, hI⟩, hbs⟩ ⟨yb, hy1, hy2, hy3, hy4, r, nn, cc, hy5, hy6⟩ hlen
    have hob := (hI.own 5 _ 31 rfl).1
    obtain rfl : r = row := by
      have := hy6.symm.trans hob
      simp [conc0, cAddr] at this
      exact this.1
    have hyn : yb ∉ [r0, r1, r2, r3, r4, r5, r] := fun hy => by
      rcases List.mem_append.1 (show yb ∈ [r0, r1, r2, r3, r4, r5] ++ [r] from hy) with h | h
      · have := hlt yb h; omega
      · simp at h; exact hy5 h.symm
    have hI2 : MemAt w0 [r0, r1, r2, r3, r4, r5, r, yb] (geoMem a b Z sz (gO a b pre) so n' k' ++ [([ii p, ii q], some t_impl_Point)]) W := hI.adopt (z := [ii p, ii q]) hy4 (Nat.le_trans hw0 hy1) hyn (fun v hv => by simp at hv; rcases hv with rfl | rfl <;> trivial)
    have hown2 : ownAll (geoMem a b Z sz (gO a b pre) so n' k' ++ [([ii p, ii q], some t_impl_Point)]) = true := rfl
    have hI3 := hI2.rebase hown2
    have hrowb := (hI.own 6 _ t_impl_Point rfl).1
    have hBn : w.heap.size ∉ [r0, r1, r2, r3, r4, r5, r, yb] := fun hB => by
      rcases List.mem_append.1 (show w.heap.size ∈ [r0, r1, r2, r3, r4, r5] ++ [r, yb] from hB) with h | h
      · have := hlt _ h; omega
      · simp at h
        rcases h with h | h
        · have h4 : W.heap[r]? = _ := hrowb
          rw [← h, hbs] at h4
          have h5 : (31 : Nat) = 23 := congrArg (fun o : Option Obj => match o with | some (.cells _ t _) => t | _ => 0) h4
          exact absurd h5 (by decide)
        · omega
    have hpre : pre.length ≤ 1000001 := by omega
    have hrn : (gO a b pre).length = n' := row_pl hrow
    have hn' : n' ≤ 1000001 := by rw [← hrn]; simpa [gO] using hpre
    have htB : TmAt [r0, r1, r2, r3, r4, r5, r, yb] (tmIn.set 15 (.pointer (some ⟨7, 0, none⟩))) a' := (hy2.ext [r, yb]).set hy3 (by show (7 : Nat) < 8; omega)
    cases hP : isPtF (gbk a b (p, q)).1 (gbk a b (p, q)).2
    · refine evr_sound good.tbl good.mix (m0 := 6) (ρ0 := [r0, r1, r2, r3, r4, r5]) (σ := [r, yb]) (w0 := ⟨W, [r0, r1, r2, r3, r4, r5, r, yb]⟩) rfl _ rgB_ok (geo_body_no (Z := Z) (sz := sz) (O := gO a b pre) (so := so) (n := n') (k := k') hP) (by exact htB) (by exact hI3) (fun ⟨_, _, h⟩ => h) ?_
      intro e σ tm' mem' a'' W' hk ha' hm'
      cases e with
      | ret => exact ⟨(hI2.others hown2 hm').1.from _, rfl, (i, p, q), by simp, hP⟩
      | _ => exact (hk : False).elim
    · refine evr_sound good.tbl good.mix (m0 := 6) (ρ0 := [r0, r1, r2, r3, r4, r5]) (σ := [r, yb]) (w0 := ⟨W, [r0, r1, r2, r3, r4, r5, r, yb]⟩) rfl _ rgB_ok (geo_body (Z := Z) (sz := sz) (O := gO a b pre) (so := so) (n := n') (k := k') (Row.all hr) hrow hn' hP) (by exact htB) (by exact hI3) (fun ⟨_, _, h⟩ => h) ?_
      intro e σ tm' mem' a'' W' hk ha' hm'
      cases e with
      | normal =>
        have hoth := hI2.others hown2 hm'
        have hgO : gO a b (pre ++ [(i, p, q)]) = gO a b pre ++ [gbk a b (p, q)] := by simp [gO]
        obtain ⟨σ', so2, n2, k2, hrow2, hm2⟩ : ∃ σ' so2 n2 k2, Row (pl (gO a b (pre ++ [(i, p, q)]))) so2 n2 k2 2 ∧ MemAt ⟨W, [r0, r1, r2, r3, r4, r5, r, yb]⟩ ([r0, r1, r2, r3, r4, r5] ++ σ') (geoMem a b Z sz (gO a b (pre ++ [(i, p, q)])) so2 n2 k2) W' := by
          rw [hgO]
          rcases hk.or with ⟨_, so2, n2, k2, h1, rfl⟩ | ⟨κ, tm2, mem2, hf, _, so2, n2, k2, h1, rfl⟩
          · exact ⟨σ, so2, n2, k2, h1, hm'⟩
          · obtain ⟨σ', _, h2⟩ := hf.sound (ρ0 := [r0, r1, r2, r3, r4, r5]) rfl ha' hm'
            exact ⟨σ', so2, n2, k2, h1, h2⟩
        obtain ⟨row2, rfl⟩ := list1 (ρ := σ') (by have := hm2.len; simp [geoMem] at this; omega)
        have hm3 := hI2.unbase hown2 hm2 rfl
        refine ⟨hoth.1.from _, fun x hx j v hv => ?_, ⟨_, _, ⟨row2, so2, n2, k2, rfl, hrow2, rfl⟩, hm3⟩, (hoth.2 _ (heap_lt hbs) hBn).trans hbs⟩
        rcases hx with rfl | rfl
        · have e1 := hlist hI
          have e2 := hlist hm3
          exact (World.cell?_of_block ((show W'.heap[x]? = _ from e2).trans (show W.heap[x]? = _ from e1).symm)).trans hv
        · exact (World.cell?_of_block (hoth.2 _ (heap_lt hbs) hBn)).trans hv
      | _ => exact (hk : False).elim
  case done =>
    rintro D xs W hD rfl ⟨⟨_, _, ⟨row, so, n', k', rfl, hrow, rfl⟩, hI⟩, hbs⟩ hDk
    have hxs : gO a b (uptoL (bPt Z) Z.length) = Z.reverse.map (gbk a b) := by
      unfold gO
      rw [uptoL_snd Z (Nat.le_refl _), List.take_of_length_le (by simp)]
    rw [hxs] at hrow hI
    show (Code.seq (.region 21 (rgZ geoT).toArray false) .ret).wpIn Fence.wide 3 Try.prog _ _ W
    have hd1 : a1.defers = [] := ha1.defers
    refine wpIn_seq (wpIn_wide.2 (wp_region_list ?_))
    rw [List.toList_toArray, hd1]
    refine list_defs (ds := [{ target := .collected D, args := #[] }]) _ a1 W rgZ_ok ?_
    have hoA : ownAll (geoMem a b Z sz (Z.reverse.map (gbk a b)) so n' k') = true := rfl
    have hta : TmAt [r0, r1, r2, r3, r4, r5, row] tmIn a1 := (TmAt.forget (ι := [0, 1, 2, 3, 4, 5]) ha1 (n := 6) rfl (tmR_rfl rfl rfl)).ext [row]
    refine evOps_sound good.tbl _ (geo_fin (a := a) (b := b) (Z := Z) (O := Z.reverse.map (gbk a b)) (sz := sz) (so := so) (n := n') (k := k')) hta (hI.rebase hoA) (Q := fun e a' w' => _) ?_
    rintro σ tm' mem' a' W' ⟨hout, rfl⟩ ha' hm'
    have hoth := hI.others hoA hm'
    have hm3 := hI.unbase hoA hm' rfl
    have hDk' : W'.heap[D]? = some (.deferred (some [])) := hoth.1.same D _ hDk rfl
    refine wpIn_ret ?_
    refine ⟨by simp, .inl ⟨_, _, rfl, run_takeDeferred hDk', ?_⟩⟩
    obtain ⟨v, rfl, hs⟩ := outK_sound good.tbl hout
    have hm4 : MemAt w0 _ _ (W'.putObj D (.deferred none)) := hm3.grown (grownBy_putObj' W' D (.deferred none)) (fun r e => by cases e; exact ⟨Nat.le_trans hw0 hD, _, hDk', rfl⟩)
    obtain ⟨hok, hrun⟩ := hs w0 _ (W'.putObj D (.deferred none)) a' ha' hm4
    refine ⟨_, hrun, ?_⟩
    obtain rfl : σ = [] := by
      have := hm'.len
      simp at this
      exact List.eq_nil_of_length_eq_zero (by simpa using this)
    have hm5 := hm4.forget (m0 := 0) (κ := [6]) (mem' := [(pl (Z.reverse.map (gbk a b)) ++ so, some t_impl_Point)]) ⟨rfl, rfl, ⟨⟨_, rfl, .plain rfl rfl (Row.all hrow)⟩, trivial⟩⟩
    exact hR row so n' k' _ hrow hm5
  case stop =>
    rintro D c pre W hD ⟨j, hj, rfl⟩ ⟨rfl, x, hx, hP⟩ _
    exfalso
    obtain ⟨i, hi, rfl⟩ := List.mem_map.1 hx
    have hi' : i < j := by simpa using hi
    have hmem : (bPt Z i).2 ∈ Z := by
      unfold bPt
      exact getD_mem (by omega)
    rw [hBk _ hmem] at hP
    cases hP

end Go.Proofs.Ytnjepaboecijcaa
