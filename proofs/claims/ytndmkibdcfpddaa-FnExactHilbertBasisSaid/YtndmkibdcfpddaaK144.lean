/-
  Contracts of functions of the program (printed by a program of this work; Lean checks each).
  Conditions: as each contract states.
-/
import Derived.Test.YtndmkibdcfpddaaSort
import Derived.WalkKit
import Derived.LoopTactic
import Derived.Lib.Builder
import Derived.StillTailTactics
import Derived.Shelf.SlSortCmp.WholeK
import Derived.Test.YtndmkibdcfpddaaKM2
namespace Go.Proofs.Ytndmkibdcfpddaa
open Go.Ev Go.RowKit
set_option maxRecDepth 100000
set_option linter.unusedVariables false
set_option linter.unusedSimpArgs false

def sortSp_ren : Go.Shelf.Ren := ⟨fun | 6 => 97 | 15 => 107 | 14 => 106 | 28 => 118 | 29 => 119 | 20 => 110 | 21 => 111 | 22 => 112 | 23 => 113 | 24 => 114 | 25 => 115 | 26 => 116 | 27 => 117 | 46 => 120 | 47 => 121 | 48 => 122 | 49 => 123 | 50 => 124 | 57 => 125 | n => n, fun | 22 => 52 | 24 => 26 | 25 => 99 | 3 => 3 | 39 => 103 | 0 => 0 | 53 => 116 | 55 => 91 | 4 => 4 | 46 => 109 | 45 => 108 | 50 => 113 | 5 => 5 | 9 => 9 | 66 => 118 | 70 => 122 | 76 => 124 | 77 => 125 | n => n, fun | n => n⟩
theorem sortSp : Go.Proofs.SlLaysF0.n6 Try.prog sortSp_ren := {
  mixed := by kernel_rfl
  f6 := ⟨Try.f97.name, by decide, Try.func97.trans (congrArg some (by kernel_rfl))⟩
  f14 := ⟨Try.f106.name, by decide, Try.func106.trans (congrArg some (by kernel_rfl))⟩
  f15 := Try.func107.trans (congrArg some (by kernel_rfl))
  f20 := ⟨Try.f110.name, by decide, Try.func110.trans (congrArg some (by kernel_rfl))⟩
  f21 := ⟨Try.f111.name, by decide, Try.func111.trans (congrArg some (by kernel_rfl))⟩
  f22 := ⟨Try.f112.name, by decide, Try.func112.trans (congrArg some (by kernel_rfl))⟩
  f23 := ⟨Try.f113.name, by decide, Try.func113.trans (congrArg some (by kernel_rfl))⟩
  f24 := ⟨Try.f114.name, by decide, Try.func114.trans (congrArg some (by kernel_rfl))⟩
  f25 := ⟨Try.f115.name, by decide, Try.func115.trans (congrArg some (by kernel_rfl))⟩
  f26 := ⟨Try.f116.name, by decide, Try.func116.trans (congrArg some (by kernel_rfl))⟩
  f27 := ⟨Try.f117.name, by decide, Try.func117.trans (congrArg some (by kernel_rfl))⟩
  f28 := Try.func118.trans (congrArg some (by kernel_rfl))
  f29 := Try.func119.trans (congrArg some (by kernel_rfl))
  f46 := ⟨Try.f120.name, by decide, Try.func120.trans (congrArg some (by kernel_rfl))⟩
  f47 := Try.func121.trans (congrArg some (by kernel_rfl))
  f48 := Try.func122.trans (congrArg some (by kernel_rfl))
  f49 := ⟨Try.f123.name, by decide, Try.func123.trans (congrArg some (by kernel_rfl))⟩
  f50 := ⟨Try.f124.name, by decide, Try.func124.trans (congrArg some (by kernel_rfl))⟩
  f57 := ⟨Try.f125.name, by decide, Try.func125.trans (congrArg some (by kernel_rfl))⟩
  t0 := Try.underlying0
  a0 := Try.isAgg0
  z0 := Try.sizeOf0
  v0 := Try.zeroValue0
  t3 := Try.underlying3
  a3 := Try.isAgg3
  z3 := Try.sizeOf3
  v3 := Try.zeroValue3
  t4 := Try.underlying4
  a4 := Try.isAgg4
  z4 := Try.sizeOf4
  v4 := Try.zeroValue4
  t5 := Try.underlying5
  a5 := Try.isAgg5
  z5 := Try.sizeOf5
  v5 := Try.zeroValue5
  t9 := Try.underlying9
  a9 := Try.isAgg9
  z9 := Try.sizeOf9
  v9 := Try.zeroValue9
  t22 := Try.underlying52
  a22 := Try.isAgg52
  z22 := Try.sizeOf52
  v22 := Try.zeroValue52
  t25 := Try.underlying99
  a25 := Try.isAgg99
  z25 := Try.sizeOf99
  v25 := Try.zeroValue99
  t39 := Try.underlying103
  a39 := Try.isAgg103
  z39 := Try.sizeOf103
  v39 := Try.zeroValue103
  t45 := Try.underlying108
  a45 := Try.isAgg108
  z45 := Try.sizeOf108
  v45 := Try.zeroValue108
  t46 := Try.underlying109
  a46 := Try.isAgg109
  z46 := Try.sizeOf109
  v46 := Try.zeroValue109
  t50 := Try.underlying113
  a50 := Try.isAgg113
  z50 := Try.sizeOf113
  v50 := Try.zeroValue113
  t53 := Try.underlying116
  a53 := Try.isAgg116
  z53 := Try.sizeOf116
  v53 := Try.zeroValue116
  t55 := Try.underlying91
  a55 := Try.isAgg91
  z55 := Try.sizeOf91
  v55 := Try.zeroValue91
  t66 := Try.underlying118
  a66 := Try.isAgg118
  z66 := Try.sizeOf118
  v66 := Try.zeroValue118
  t70 := Try.underlying122
  a70 := Try.isAgg122
  z70 := Try.sizeOf122
  v70 := Try.zeroValue122
  t76 := Try.underlying124
  a76 := Try.isAgg124
  z76 := Try.sizeOf124
  v76 := Try.zeroValue124
  t77 := Try.underlying125
  a77 := Try.isAgg125
  z77 := Try.sizeOf125
  v77 := Try.zeroValue125 }

theorem nan_w (x : Int) (w : World) : Calls Try.prog 108 #[.int .i64 x] w fun e w' => e = .returned (.bool false) ∧ w' = w := by
  go_enter Try.func108, Try.ntmps108
  go_wp2
  go_ret
  exact ⟨by simp, rfl⟩
def cmp1 (x y : Int) : Int := if x < y then -1 else if y < x then 1 else 0
set_option maxHeartbeats 1000000 in
theorem cmp_w (x y : Int) (w : World) : Calls Try.prog 100 #[.int .i64 x, .int .i64 y] w fun e w' => e = .returned (.int .i64 (cmp1 x y)) ∧ w' = w := by
  unfold cmp1
  have hn := nan_w
  go_enter Try.func100, Try.ntmps100
  go_wp2_with (go_at_call 108; refine (hn _ _).mono ?_; rintro e w' ⟨rfl, rfl⟩)
  all_goals (go_ret; exact ⟨by simp_all <;> omega, rfl⟩)
def orV (x y z : Int) : Int := if x = 0 then (if y = 0 then z else y) else x
set_option maxHeartbeats 1000000 in
theorem or_w (x y z : Int) (b : Nat) (w : World) (h0 : w.cell? ⟨b, 0, none⟩ = some (.int .i64 x)) (h1 : w.cell? ⟨b, 1, none⟩ = some (.int .i64 y)) (h2 : w.cell? ⟨b, 2, none⟩ = some (.int .i64 z)) :
    Calls Try.prog 99 #[.slice (some ⟨b, 0, none⟩) 3 3] w fun e w' => e = .returned (.int .i64 (orV x y z)) ∧ w' = w := by
  go_enter Try.func99, Try.ntmps99
  go_wp2
  go_loop [8] (fun i => ∃ k : Nat, k ≤ 3 ∧ i = .int .i64 k ∧ (0 < k → x = 0) ∧ (1 < k → y = 0) ∧ (2 < k → z = 0)) (fun i => 3 - (intOf i).toNat)
  case atStart => exact ⟨0, by omega, rfl, fun h => absurd h (by omega), fun h => absurd h (by omega), fun h => absurd h (by omega)⟩
  case round =>
    obtain ⟨k, hk, rfl, k0, k1, k2⟩ := hrel
    obtain rfl | rfl | rfl | rfl : k = 0 ∨ k = 1 ∨ k = 2 ∨ k = 3 := by omega
    · go_wp2
      · have hx : ¬ x = 0 := by simpa using (by assumption : (x != 0) = true)
        go_ret
        exact ⟨by unfold orV; rw [if_neg hx]; rfl, rfl⟩
      · rename_i hx
        go_round
        case rel => exact ⟨1, by omega, rfl, fun _ => by simpa using hx, fun h => absurd h (by omega), fun h => absurd h (by omega)⟩
        case measure => simp [intOf]
    · have e0 := k0 (by omega)
      go_wp2
      · have hx : ¬ y = 0 := by simpa using (by assumption : (y != 0) = true)
        go_ret
        exact ⟨by unfold orV; rw [if_pos rfl, if_neg hx]; rfl, rfl⟩
      · rename_i hx
        go_round
        case rel => exact ⟨2, by omega, rfl, fun _ => e0, fun _ => by simpa using hx, fun h => absurd h (by omega)⟩
        case measure => simp [intOf]
    · have e0 := k0 (by omega)
      have e1 := k1 (by omega)
      go_wp2
      · go_ret
        exact ⟨by unfold orV; rw [if_pos rfl, if_pos rfl]; rfl, rfl⟩
      · rename_i hx
        go_round
        case rel => exact ⟨3, by omega, rfl, fun _ => e0, fun _ => e1, fun _ => by simpa using hx⟩
        case measure => simp [intOf]
    · have e0 := k0 (by omega)
      have e1 := k1 (by omega)
      have e2 := k2 (by omega)
      go_wp2
      go_ret
      exact ⟨by unfold orV; rw [if_pos rfl, if_pos rfl]; rfl, rfl⟩

theorem two3 (w : World) (t : Nat) (a b c d e f : Value) : let W := (w.alloc (.cells #[a, b, c] t)).alloc (.cells #[d, e, f] t)
    (W.cell? ⟨w.heap.size, 0, none⟩ = some a ∧ W.cell? ⟨w.heap.size, 1, none⟩ = some b ∧ W.cell? ⟨w.heap.size, 2, none⟩ = some c) ∧ (W.cell? ⟨w.heap.size + 1, 0, none⟩ = some d ∧ W.cell? ⟨w.heap.size + 1, 1, none⟩ = some e ∧ W.cell? ⟨w.heap.size + 1, 2, none⟩ = some f) ∧ W.heap.size = w.heap.size + 1 + 1 := by
  intro W
  have h1 : W.heap[w.heap.size]? = some (.cells #[a, b, c] t (0, 0)) := (Below.heap_alloc _ _ _ (by simp)).trans (MapKept.heap_alloc w _).1
  have h2 : W.heap[w.heap.size + 1]? = some (.cells #[d, e, f] t (0, 0)) := by
    have := (MapKept.heap_alloc (w.alloc (.cells #[a, b, c] t)) (.cells #[d, e, f] t)).1
    rwa [World.size_alloc] at this
  refine ⟨⟨?_, ?_, ?_⟩, ⟨?_, ?_, ?_⟩, by simp [W]⟩
  · rw [Lib.cell_of_heap h1]; rfl
  · rw [Lib.cell_of_heap h1]; rfl
  · rw [Lib.cell_of_heap h1]; rfl
  · rw [Lib.cell_of_heap h2]; rfl
  · rw [Lib.cell_of_heap h2]; rfl
  · rw [Lib.cell_of_heap h2]; rfl
theorem new3 {W : World} {b t : Nat} {p q r : Value} (hb : b = W.heap.size) : (W.alloc (.cells #[p, q, r] t)).cell? ⟨b, 0, none⟩ = some p ∧ (W.alloc (.cells #[p, q, r] t)).cell? ⟨b, 1, none⟩ = some q ∧ (W.alloc (.cells #[p, q, r] t)).cell? ⟨b, 2, none⟩ = some r := by
  subst hb
  have h : (W.alloc (.cells #[p, q, r] t)).heap[W.heap.size]? = some (.cells #[p, q, r] t (0, 0)) := (MapKept.heap_alloc W _).1
  refine ⟨?_, ?_, ?_⟩ <;> (rw [Lib.cell_of_heap h]; rfl)
def spEnc (x : S3) : List Value := [.int .i64 x.1, .int .i64 x.2.1, .int .i64 x.2.2]
def spCmp (x y : S3) : Int := orV (cmp1 x.1 y.1) (cmp1 x.2.1 y.2.1) (cmp1 x.2.2 y.2.2)
set_option maxHeartbeats 1000000 in
theorem clo_w (x y : S3) (w : World) : Calls Try.prog 98 #[.agg (spEnc x).toArray, .agg (spEnc y).toArray] w fun e w' => e = .returned (.int .i64 (spCmp x y)) ∧ ∃ q os', w' = Go.Sort.grow (w.drewN q) os' := by
  obtain ⟨a, b, c⟩ := x
  obtain ⟨d, e, f⟩ := y
  have hcm := cmp_w
  have hor := or_w
  unfold spCmp
  simp only
  show Calls Try.prog 98 #[.agg #[.int .i64 a, .int .i64 b, .int .i64 c], .agg #[.int .i64 d, .int .i64 e, .int .i64 f]] w _
  go_enter Try.func98, Try.ntmps98
  go_wp2_with (fail)
  obtain ⟨⟨c0, c1, c2⟩, ⟨c3, c4, c5⟩, hsz⟩ := two3 w 26 (.int .i64 a) (.int .i64 b) (.int .i64 c) (.int .i64 d) (.int .i64 e) (.int .i64 f)
  obtain ⟨W2, hW2⟩ : ∃ W2, (w.alloc (.cells #[.int .i64 a, .int .i64 b, .int .i64 c] 26)).alloc (.cells #[.int .i64 d, .int .i64 e, .int .i64 f] 26) = W2 := ⟨_, rfl⟩
  rw [hW2] at c0 c1 c2 c3 c4 c5 hsz ⊢
  have d0 : ({ W2 with drawn := W2.drawn + 1 } : World).cell? ⟨w.heap.size, 0, none⟩ = some (.int .i64 a) := c0
  have d1 : ({ W2 with drawn := W2.drawn + 1 } : World).cell? ⟨w.heap.size, 1, none⟩ = some (.int .i64 b) := c1
  have d2 : ({ W2 with drawn := W2.drawn + 1 } : World).cell? ⟨w.heap.size, 2, none⟩ = some (.int .i64 c) := c2
  have d3 : ({ W2 with drawn := W2.drawn + 1 } : World).cell? ⟨w.heap.size + 1, 0, none⟩ = some (.int .i64 d) := c3
  have d4 : ({ W2 with drawn := W2.drawn + 1 } : World).cell? ⟨w.heap.size + 1, 1, none⟩ = some (.int .i64 e) := c4
  have d5 : ({ W2 with drawn := W2.drawn + 1 } : World).cell? ⟨w.heap.size + 1, 2, none⟩ = some (.int .i64 f) := c5
  go_still_tail 15, (by kernel_rfl)
  still_call (hcm _ _ _)
  repeat still_step
  still_call (hcm _ _ _)
  repeat still_step
  still_call (hcm _ _ _)
  try refine wpStill_nil ?_
  clear d0 d1 d2 d3 d4 d5 c0 c1 c2 c3 c4 c5 hcm
  obtain ⟨p, hp⟩ : ∃ p, cmp1 a d = p := ⟨_, rfl⟩
  obtain ⟨q, hq⟩ : ∃ q, cmp1 b e = q := ⟨_, rfl⟩
  obtain ⟨r, hr⟩ : ∃ r, cmp1 c f = r := ⟨_, rfl⟩
  rw [hp, hq, hr]
  obtain ⟨W3, hW3⟩ : ∃ W3, ({ W2 with drawn := W2.drawn + 1 } : World) = W3 := ⟨_, rfl⟩
  have hs3 : W3.heap.size = w.heap.size + 1 + 1 := by rw [← hW3]; exact hsz
  rw [hW3]
  go_wp2_with (go_at_call 99; refine (hor p q r _ _ (new3 (by first | rfl | exact hs3.symm | omega)).1 (new3 (by first | rfl | exact hs3.symm | omega)).2.1 (new3 (by first | rfl | exact hs3.symm | omega)).2.2).mono ?_; rintro e w' ⟨rfl, rfl⟩)
  go_ret
  refine ⟨by rw [hp, hq, hr]; rfl, 1, #[.cells #[.int .i64 a, .int .i64 b, .int .i64 c] 26, .cells #[.int .i64 d, .int .i64 e, .int .i64 f] 26, .cells #[.int .i64 p, .int .i64 q, .int .i64 r] 3], ?_⟩
  rw [← hW3, ← hW2, Go.Sort.alloc_eq_grow, Go.Sort.alloc_eq_grow, Go.Sort.alloc_eq_grow, Go.Sort.grow_grow]
  show Go.Sort.grow (Go.Sort.grow (w.drewN 1) _) _ = _
  rw [Go.Sort.grow_grow]
  rfl

theorem sp_lt (x y : S3) : Go.Proofs.ltOf spCmp x y = lt3 x y := by
  have h : spCmp x y < 0 ↔ lt3 x y = true := by
    rw [lt3_iff]
    unfold spCmp orV cmp1
    repeat' split
    all_goals omega
  unfold Go.Proofs.ltOf
  cases h2 : lt3 x y
  · exact decide_eq_false fun h3 => by rw [h.1 h3] at h2; cases h2
  · exact decide_eq_true (h.2 h2)
theorem sp_swo : Go.Sort.SWO (Go.Proofs.ltOf spCmp) where
  irrefl x := by rw [sp_lt, lt3_irr]
  trans x y z h1 h2 := by rw [sp_lt] at *; exact lt3_trans h1 h2
  ntrans x y z h1 h2 := by
    rw [sp_lt] at *
    have a1 : ¬ lt3 x y = true := by simp [h1]
    have a2 : ¬ lt3 y z = true := by simp [h2]
    cases h3 : lt3 x z
    · rfl
    · rw [lt3_iff] at a1 a2 h3; omega
theorem sp_cells (d : List S3) : encL spEnc d = sl d := by
  unfold encL sl
  induction d with
  | nil => rfl
  | cons x d ih => simp only [List.map_cons, List.flatten_cons, List.flatMap_cons]; rw [ih]; rfl
theorem c_sort_sp {L : List S3} {sp : List Value} {n c t : Nat} (h1 : Row (sl L) sp n c 3) (hn : n ≤ 100000000) :
    CallOK Try.prog 97 [.slice (some ⟨0, 0, none⟩) n c, .func (.func 98) #[] #[]] [(sl L ++ sp, some t)] fun v m_ =>
      ∃ L' : List S3, L'.Perm L ∧ L'.Pairwise (fun x y => lt3 y x = false) ∧ v = .tuple #[] ∧ m_ = [(sl L' ++ sp, some t)] := by
  obtain rfl := row_sl h1
  have := sort_call sortSp 3 Try.isAgg26 Try.sizeOf26 (enc := spEnc) (fun _ => rfl) (fun x => Plain.of rfl) (fun x v hv => by simp [spEnc] at hv; rcases hv with rfl | rfl | rfl <;> rfl) sp_swo (g := 98)
    (enters_of Try.func98 (by kernel_rfl) rfl) clo_w (f := 97) rfl fn_slices_SortFunc_Spot.enters (d := L) (sp := sp) (c := c) (t := t) h1.ps (by omega)
  rw [sp_cells] at this
  refine ⟨this.enters, fun w0 ρ w hm hargs => (this.run w0 ρ w hm hargs).mono fun e w' ⟨v, mem', σ, he, ho, hm', d', hp, hs, hv, hmem⟩ => ⟨v, mem', σ, he, ho, hm', d', hp, ?_, hv, by rw [hmem, sp_cells]⟩⟩
  refine hs.imp fun {x y} hxy => ?_
  rw [sp_lt] at hxy
  exact hxy
theorem perm_asc {L L' : List S3} (hd : L.Nodup) (hp : L'.Perm L) (hs : L'.Pairwise (fun x y => lt3 y x = false)) : Asc L' := by
  have hd' : L'.Nodup := hp.symm.nodup_iff.1 hd
  refine (hs.and hd').imp fun {x y} h => ?_
  cases h2 : lt3 x y
  · exact absurd (lt3_total h2 h.1) h.2
  · rfl

end Go.Proofs.Ytndmkibdcfpddaa
