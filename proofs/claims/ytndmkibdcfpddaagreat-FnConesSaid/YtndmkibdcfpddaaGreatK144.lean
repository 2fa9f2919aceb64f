/-
  Contracts of functions of the program (printed by a program of this work; Lean checks each).
  Conditions: as each contract states.
-/
import Derived.Test.YtndmkibdcfpddaaGreatSort
import Derived.WalkKit
import Derived.LoopTactic
import Derived.Lib.Builder
import Derived.StillTailTactics
import Derived.Shelf.SlSortCmp.WholeK
import Derived.Test.YtndmkibdcfpddaaGreatKM2
namespace Go.Proofs.YtndmkibdcfpddaaGreat
open Go.Ev Go.RowKit
set_option maxRecDepth 100000
set_option linter.unusedVariables false
set_option linter.unusedSimpArgs false

def sortSp_ren : Go.Shelf.Ren := ⟨fun | 6 => 73 | 15 => 90 | 14 => 89 | 28 => 102 | 29 => 103 | 20 => 94 | 21 => 95 | 22 => 96 | 23 => 97 | 24 => 98 | 25 => 99 | 26 => 100 | 27 => 101 | 46 => 104 | 47 => 105 | 48 => 106 | 49 => 107 | 50 => 108 | 57 => 109 | n => n, fun | 22 => 29 | 24 => 25 | 25 => 87 | 3 => 3 | 39 => 95 | 0 => 0 | 53 => 108 | 55 => 81 | 4 => 4 | 46 => 101 | 45 => 100 | 50 => 105 | 5 => 5 | 9 => 9 | 66 => 110 | 70 => 114 | 76 => 116 | 77 => 117 | n => n, fun | n => n⟩
theorem sortSp : Go.Proofs.SlLaysF0.n6 Tryz.prog sortSp_ren := {
  mixed := by kernel_rfl
  f6 := ⟨Tryz.f73.name, by decide, Tryz.func73.trans (congrArg some (by kernel_rfl))⟩
  f14 := ⟨Tryz.f89.name, by decide, Tryz.func89.trans (congrArg some (by kernel_rfl))⟩
  f15 := Tryz.func90.trans (congrArg some (by kernel_rfl))
  f20 := ⟨Tryz.f94.name, by decide, Tryz.func94.trans (congrArg some (by kernel_rfl))⟩
  f21 := ⟨Tryz.f95.name, by decide, Tryz.func95.trans (congrArg some (by kernel_rfl))⟩
  f22 := ⟨Tryz.f96.name, by decide, Tryz.func96.trans (congrArg some (by kernel_rfl))⟩
  f23 := ⟨Tryz.f97.name, by decide, Tryz.func97.trans (congrArg some (by kernel_rfl))⟩
  f24 := ⟨Tryz.f98.name, by decide, Tryz.func98.trans (congrArg some (by kernel_rfl))⟩
  f25 := ⟨Tryz.f99.name, by decide, Tryz.func99.trans (congrArg some (by kernel_rfl))⟩
  f26 := ⟨Tryz.f100.name, by decide, Tryz.func100.trans (congrArg some (by kernel_rfl))⟩
  f27 := ⟨Tryz.f101.name, by decide, Tryz.func101.trans (congrArg some (by kernel_rfl))⟩
  f28 := Tryz.func102.trans (congrArg some (by kernel_rfl))
  f29 := Tryz.func103.trans (congrArg some (by kernel_rfl))
  f46 := ⟨Tryz.f104.name, by decide, Tryz.func104.trans (congrArg some (by kernel_rfl))⟩
  f47 := Tryz.func105.trans (congrArg some (by kernel_rfl))
  f48 := Tryz.func106.trans (congrArg some (by kernel_rfl))
  f49 := ⟨Tryz.f107.name, by decide, Tryz.func107.trans (congrArg some (by kernel_rfl))⟩
  f50 := ⟨Tryz.f108.name, by decide, Tryz.func108.trans (congrArg some (by kernel_rfl))⟩
  f57 := ⟨Tryz.f109.name, by decide, Tryz.func109.trans (congrArg some (by kernel_rfl))⟩
  t0 := Tryz.underlying0
  a0 := Tryz.isAgg0
  z0 := Tryz.sizeOf0
  v0 := Tryz.zeroValue0
  t3 := Tryz.underlying3
  a3 := Tryz.isAgg3
  z3 := Tryz.sizeOf3
  v3 := Tryz.zeroValue3
  t4 := Tryz.underlying4
  a4 := Tryz.isAgg4
  z4 := Tryz.sizeOf4
  v4 := Tryz.zeroValue4
  t5 := Tryz.underlying5
  a5 := Tryz.isAgg5
  z5 := Tryz.sizeOf5
  v5 := Tryz.zeroValue5
  t9 := Tryz.underlying9
  a9 := Tryz.isAgg9
  z9 := Tryz.sizeOf9
  v9 := Tryz.zeroValue9
  t22 := Tryz.underlying29
  a22 := Tryz.isAgg29
  z22 := Tryz.sizeOf29
  v22 := Tryz.zeroValue29
  t25 := Tryz.underlying87
  a25 := Tryz.isAgg87
  z25 := Tryz.sizeOf87
  v25 := Tryz.zeroValue87
  t39 := Tryz.underlying95
  a39 := Tryz.isAgg95
  z39 := Tryz.sizeOf95
  v39 := Tryz.zeroValue95
  t45 := Tryz.underlying100
  a45 := Tryz.isAgg100
  z45 := Tryz.sizeOf100
  v45 := Tryz.zeroValue100
  t46 := Tryz.underlying101
  a46 := Tryz.isAgg101
  z46 := Tryz.sizeOf101
  v46 := Tryz.zeroValue101
  t50 := Tryz.underlying105
  a50 := Tryz.isAgg105
  z50 := Tryz.sizeOf105
  v50 := Tryz.zeroValue105
  t53 := Tryz.underlying108
  a53 := Tryz.isAgg108
  z53 := Tryz.sizeOf108
  v53 := Tryz.zeroValue108
  t55 := Tryz.underlying81
  a55 := Tryz.isAgg81
  z55 := Tryz.sizeOf81
  v55 := Tryz.zeroValue81
  t66 := Tryz.underlying110
  a66 := Tryz.isAgg110
  z66 := Tryz.sizeOf110
  v66 := Tryz.zeroValue110
  t70 := Tryz.underlying114
  a70 := Tryz.isAgg114
  z70 := Tryz.sizeOf114
  v70 := Tryz.zeroValue114
  t76 := Tryz.underlying116
  a76 := Tryz.isAgg116
  z76 := Tryz.sizeOf116
  v76 := Tryz.zeroValue116
  t77 := Tryz.underlying117
  a77 := Tryz.isAgg117
  z77 := Tryz.sizeOf117
  v77 := Tryz.zeroValue117 }

theorem nan_w (x : Int) (w : World) : Calls Tryz.prog 91 #[.int .i64 x] w fun e w' => e = .returned (.bool false) ∧ w' = w := by
  go_enter Tryz.func91, Tryz.ntmps91
  go_wp2
  go_ret
  exact ⟨by simp, rfl⟩
def cmp1 (x y : Int) : Int := if x < y then -1 else if y < x then 1 else 0
set_option maxHeartbeats 1000000 in
theorem cmp_w (x y : Int) (w : World) : Calls Tryz.prog 76 #[.int .i64 x, .int .i64 y] w fun e w' => e = .returned (.int .i64 (cmp1 x y)) ∧ w' = w := by
  unfold cmp1
  have hn := nan_w
  go_enter Tryz.func76, Tryz.ntmps76
  go_wp2_with (go_at_call 91; refine (hn _ _).mono ?_; rintro e w' ⟨rfl, rfl⟩)
  all_goals (go_ret; exact ⟨by simp_all <;> omega, rfl⟩)
def orV (x y z : Int) : Int := if x = 0 then (if y = 0 then z else y) else x
set_option maxHeartbeats 1000000 in
theorem or_w (x y z : Int) (b : Nat) (w : World) (h0 : w.cell? ⟨b, 0, none⟩ = some (.int .i64 x)) (h1 : w.cell? ⟨b, 1, none⟩ = some (.int .i64 y)) (h2 : w.cell? ⟨b, 2, none⟩ = some (.int .i64 z)) :
    Calls Tryz.prog 75 #[.slice (some ⟨b, 0, none⟩) 3 3] w fun e w' => e = .returned (.int .i64 (orV x y z)) ∧ w' = w := by
  go_enter Tryz.func75, Tryz.ntmps75
  go_wp2
  go_loop [8] (fun i => ∃ k : Nat, k ≤ 3 ∧ i = .int .i64 k ∧ (0 < k → x = 0) ∧ (1 < k → y = 0) ∧ (2 < k → z = 0)) (fun i => 3 - (intOf i).toNat)
  case atStart => exact ⟨0, by omega, rfl, fun h => absurd h (by omega), fun h => absurd h (by omega), fun h => absurd h (by omega)⟩
  case round =>
    obtain ⟨k, hk, rfl, k0, k1, k2⟩ := hrel
    obtain rfl | rfl | rfl | rfl : k = 0 ∨ k = 1 ∨ k = 2 ∨ k = 3 := by omega
    · go_wp2
      · have hx : ¬ x = 0 := by simpa using (by assumption : (x != 0) = true)
        go_ret
        exact ⟨by unfold orV; rw [if_neg hx]; rfl, rfl⟩
      · rename_i hx
        go_round
        case rel => exact ⟨1, by omega, rfl, fun _ => by simpa using hx, fun h => absurd h (by omega), fun h => absurd h (by omega)⟩
        case measure => simp [intOf]
    · have e0 := k0 (by omega)
      go_wp2
      · have hx : ¬ y = 0 := by simpa using (by assumption : (y != 0) = true)
        go_ret
        exact ⟨by unfold orV; rw [if_pos rfl, if_neg hx]; rfl, rfl⟩
      · rename_i hx
        go_round
        case rel => exact ⟨2, by omega, rfl, fun _ => e0, fun _ => by simpa using hx, fun h => absurd h (by omega)⟩
        case measure => simp [intOf]
    · have e0 := k0 (by omega)
      have e1 := k1 (by omega)
      go_wp2
      · go_ret
        exact ⟨by unfold orV; rw [if_pos rfl, if_pos rfl]; rfl, rfl⟩
      · rename_i hx
        go_round
        case rel => exact ⟨3, by omega, rfl, fun _ => e0, fun _ => e1, fun _ => by simpa using hx⟩
        case measure => simp [intOf]
    · have e0 := k0 (by omega)
      have e1 := k1 (by omega)
      have e2 := k2 (by omega)
      go_wp2
      go_ret
      exact ⟨by unfold orV; rw [if_pos rfl, if_pos rfl]; rfl, rfl⟩

theorem two3 (w : World) (t : Nat) (a b c d e f : Value) : let W := (w.alloc (.cells #[a, b, c] t)).alloc (.cells #[d, e, f] t)
    (W.cell? ⟨w.heap.size, 0, none⟩ = some a ∧ W.cell? ⟨w.heap.size, 1, none⟩ = some b ∧ W.cell? ⟨w.heap.size, 2, none⟩ = some c) ∧ (W.cell? ⟨w.heap.size + 1, 0, none⟩ = some d ∧ W.cell? ⟨w.heap.size + 1, 1, none⟩ = some e ∧ W.cell? ⟨w.heap.size + 1, 2, none⟩ = some f) ∧ W.heap.size = w.heap.size + 1 + 1 := by
  intro W
  have h1 : W.heap[w.heap.size]? = some (.cells #[a, b, c] t (0, 0)) := (Below.heap_alloc _ _ _ (by simp)).trans (MapKept.heap_alloc w _).1
  have h2 : W.heap[w.heap.size + 1]? = some (.cells #[d, e, f] t (0, 0)) := by
    have := (MapKept.heap_alloc (w.alloc (.cells #[a, b, c] t)) (.cells #[d, e, f] t)).1
    rwa [World.size_alloc] at this
  refine ⟨⟨?_, ?_, ?_⟩, ⟨?_, ?_, ?_⟩, by simp [W]⟩
  · rw [Lib.cell_of_heap h1]; rfl
  · rw [Lib.cell_of_heap h1]; rfl
  · rw [Lib.cell_of_heap h1]; rfl
  · rw [Lib.cell_of_heap h2]; rfl
  · rw [Lib.cell_of_heap h2]; rfl
  · rw [Lib.cell_of_heap h2]; rfl
theorem new3 {W : World} {b t : Nat} {p q r : Value} (hb : b = W.heap.size) : (W.alloc (.cells #[p, q, r] t)).cell? ⟨b, 0, none⟩ = some p ∧ (W.alloc (.cells #[p, q, r] t)).cell? ⟨b, 1, none⟩ = some q ∧ (W.alloc (.cells #[p, q, r] t)).cell? ⟨b, 2, none⟩ = some r := by
  subst hb
  have h : (W.alloc (.cells #[p, q, r] t)).heap[W.heap.size]? = some (.cells #[p, q, r] t (0, 0)) := (MapKept.heap_alloc W _).1
  refine ⟨?_, ?_, ?_⟩ <;> (rw [Lib.cell_of_heap h]; rfl)
def spEnc (x : S3) : List Value := [.int .i64 x.1, .int .i64 x.2.1, .int .i64 x.2.2]
def spCmp (x y : S3) : Int := orV (cmp1 x.1 y.1) (cmp1 x.2.1 y.2.1) (cmp1 x.2.2 y.2.2)
set_option maxHeartbeats 1000000 in
theorem clo_w (x y : S3) (w : World) : Calls Tryz.prog 74 #[.agg (spEnc x).toArray, .agg (spEnc y).toArray] w fun e w' => e = .returned (.int .i64 (spCmp x y)) ∧ ∃ q os', w' = Go.Sort.grow (w.drewN q) os' := by
  obtain ⟨a, b, c⟩ := x
  obtain ⟨d, e, f⟩ := y
  have hcm := cmp_w
  have hor := or_w
  unfold spCmp
  simp only
  show Calls Tryz.prog 74 #[.agg #[.int .i64 a, .int .i64 b, .int .i64 c], .agg #[.int .i64 d, .int .i64 e, .int .i64 f]] w _
  go_enter Tryz.func74, Tryz.ntmps74
  go_wp2_with (fail)
  obtain ⟨⟨c0, c1, c2⟩, ⟨c3, c4, c5⟩, hsz⟩ := two3 w 25 (.int .i64 a) (.int .i64 b) (.int .i64 c) (.int .i64 d) (.int .i64 e) (.int .i64 f)
  obtain ⟨W2, hW2⟩ : ∃ W2, (w.alloc (.cells #[.int .i64 a, .int .i64 b, .int .i64 c] 25)).alloc (.cells #[.int .i64 d, .int .i64 e, .int .i64 f] 25) = W2 := ⟨_, rfl⟩
  rw [hW2] at c0 c1 c2 c3 c4 c5 hsz ⊢
  have d0 : ({ W2 with drawn := W2.drawn + 1 } : World).cell? ⟨w.heap.size, 0, none⟩ = some (.int .i64 a) := c0
  have d1 : ({ W2 with drawn := W2.drawn + 1 } : World).cell? ⟨w.heap.size, 1, none⟩ = some (.int .i64 b) := c1
  have d2 : ({ W2 with drawn := W2.drawn + 1 } : World).cell? ⟨w.heap.size, 2, none⟩ = some (.int .i64 c) := c2
  have d3 : ({ W2 with drawn := W2.drawn + 1 } : World).cell? ⟨w.heap.size + 1, 0, none⟩ = some (.int .i64 d) := c3
  have d4 : ({ W2 with drawn := W2.drawn + 1 } : World).cell? ⟨w.heap.size + 1, 1, none⟩ = some (.int .i64 e) := c4
  have d5 : ({ W2 with drawn := W2.drawn + 1 } : World).cell? ⟨w.heap.size + 1, 2, none⟩ = some (.int .i64 f) := c5
  go_still_tail 15, (by kernel_rfl)
  still_call (hcm _ _ _)
  repeat still_step
  still_call (hcm _ _ _)
  repeat still_step
  still_call (hcm _ _ _)
  try refine wpStill_nil ?_
  clear d0 d1 d2 d3 d4 d5 c0 c1 c2 c3 c4 c5 hcm
  obtain ⟨p, hp⟩ : ∃ p, cmp1 a d = p := ⟨_, rfl⟩
  obtain ⟨q, hq⟩ : ∃ q, cmp1 b e = q := ⟨_, rfl⟩
  obtain ⟨r, hr⟩ : ∃ r, cmp1 c f = r := ⟨_, rfl⟩
  rw [hp, hq, hr]
  obtain ⟨W3, hW3⟩ : ∃ W3, ({ W2 with drawn := W2.drawn + 1 } : World) = W3 := ⟨_, rfl⟩
  have hs3 : W3.heap.size = w.heap.size + 1 + 1 := by rw [← hW3]; exact hsz
  rw [hW3]
  go_wp2_with (go_at_call 75; refine (hor p q r _ _ (new3 (by first | rfl | exact hs3.symm | omega)).1 (new3 (by first | rfl | exact hs3.symm | omega)).2.1 (new3 (by first | rfl | exact hs3.symm | omega)).2.2).mono ?_; rintro e w' ⟨rfl, rfl⟩)
  go_ret
  refine ⟨by rw [hp, hq, hr]; rfl, 1, #[.cells #[.int .i64 a, .int .i64 b, .int .i64 c] 25, .cells #[.int .i64 d, .int .i64 e, .int .i64 f] 25, .cells #[.int .i64 p, .int .i64 q, .int .i64 r] 3], ?_⟩
  rw [← hW3, ← hW2, Go.Sort.alloc_eq_grow, Go.Sort.alloc_eq_grow, Go.Sort.alloc_eq_grow, Go.Sort.grow_grow]
  show Go.Sort.grow (Go.Sort.grow (w.drewN 1) _) _ = _
  rw [Go.Sort.grow_grow]
  rfl

theorem sp_lt (x y : S3) : Go.Proofs.ltOf spCmp x y = lt3 x y := by
  have h : spCmp x y < 0 ↔ lt3 x y = true := by
    rw [lt3_iff]
    unfold spCmp orV cmp1
    repeat' split
    all_goals omega
  unfold Go.Proofs.ltOf
  cases h2 : lt3 x y
  · exact decide_eq_false fun h3 => by rw [h.1 h3] at h2; cases h2
  · exact decide_eq_true (h.2 h2)
theorem sp_swo : Go.Sort.SWO (Go.Proofs.ltOf spCmp) where
  irrefl x := by rw [sp_lt, lt3_irr]
  trans x y z h1 h2 := by rw [sp_lt] at *; exact lt3_trans h1 h2
  ntrans x y z h1 h2 := by
    rw [sp_lt] at *
    have a1 : ¬ lt3 x y = true := by simp [h1]
    have a2 : ¬ lt3 y z = true := by simp [h2]
    cases h3 : lt3 x z
    · rfl
    · rw [lt3_iff] at a1 a2 h3; omega
theorem sp_cells (d : List S3) : encL spEnc d = sl d := by
  unfold encL sl
  induction d with
  | nil => rfl
  | cons x d ih => simp only [List.map_cons, List.flatten_cons, List.flatMap_cons]; rw [ih]; rfl
theorem c_sort_sp {L : List S3} {sp : List Value} {n c t : Nat} (h1 : Row (sl L) sp n c 3) (hn : n ≤ 100000000) :
    CallOK Tryz.prog 73 [.slice (some ⟨0, 0, none⟩) n c, .func (.func 74) #[] #[]] [(sl L ++ sp, some t)] fun v m_ =>
      ∃ L' : List S3, L'.Perm L ∧ L'.Pairwise (fun x y => lt3 y x = false) ∧ v = .tuple #[] ∧ m_ = [(sl L' ++ sp, some t)] := by
  obtain rfl := row_sl h1
  have := sort_call sortSp 3 Tryz.isAgg25 Tryz.sizeOf25 (enc := spEnc) (fun _ => rfl) (fun x => Plain.of rfl) (fun x v hv => by simp [spEnc] at hv; rcases hv with rfl | rfl | rfl <;> rfl) sp_swo (g := 74)
    (enters_of Tryz.func74 (by kernel_rfl) rfl) clo_w (f := 73) rfl fn_slices_SortFunc_Spot.enters (d := L) (sp := sp) (c := c) (t := t) h1.ps (by omega)
  rw [sp_cells] at this
  refine ⟨this.enters, fun w0 ρ w hm hargs => (this.run w0 ρ w hm hargs).mono fun e w' ⟨v, mem', σ, he, ho, hm', d', hp, hs, hv, hmem⟩ => ⟨v, mem', σ, he, ho, hm', d', hp, ?_, hv, by rw [hmem, sp_cells]⟩⟩
  refine hs.imp fun {x y} hxy => ?_
  rw [sp_lt] at hxy
  exact hxy
theorem perm_asc {L L' : List S3} (hd : L.Nodup) (hp : L'.Perm L) (hs : L'.Pairwise (fun x y => lt3 y x = false)) : Asc L' := by
  have hd' : L'.Nodup := hp.symm.nodup_iff.1 hd
  refine (hs.and hd').imp fun {x y} h => ?_
  cases h2 : lt3 x y
  · exact absurd (lt3_total h2 h.1) h.2
  · rfl

end Go.Proofs.YtndmkibdcfpddaaGreat
