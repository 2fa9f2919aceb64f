/-
  Contracts of functions of the program (printed by a program of this work; Lean checks each).
  Conditions: as each contract states.
-/
import Derived.Test.YtnjepaboecijcaaDoorK1
import Derived.Test.YtnjepaboecijcaaDoorPthF
import Derived.WalkKit
import Derived.Ground.NamesProg
import Derived.Shelf.Strings.SlTrimAscii
namespace Go.Proofs.YtnjepaboecijcaaDoor
open Go.Ev Go.RowKit
open Go.Shelf Go.Lib
set_option maxRecDepth 100000
set_option linter.unusedVariables false
set_option linter.unusedSimpArgs false

def trimLay_ren : Go.Shelf.Ren := ⟨fun | 160 => 14 | 232 => 18 | 231 => 17 | 227 => 19 | 234 => 21 | 233 => 20 | 236 => 23 | 235 => 22 | 228 => 25 | 271 => 28 | 151 => 27 | 197 => 26 | 120 => 32 | 152 => 31 | 260 => 30 | 137 => 33 | 119 => 34 | 224 => 35 | 225 => 36 | 217 => 37 | 266 => 38 | n => n, fun | 9 => 9 | 4 => 4 | 3 => 3 | 5 => 5 | 117 => 40 | 116 => 39 | 0 => 0 | 124 => 43 | 21 => 21 | 105 => 45 | 46 => 50 | 119 => 49 | 139 => 53 | 138 => 52 | n => n, fun | 3 => 0 | 4 => 1 | n => n⟩
theorem trimLay : Go.Proofs.Lays.n160 Tryd.prog trimLay_ren := {
  mixed := by kernel_rfl
  f119 := Tryd.func34.trans (congrArg some (by kernel_rfl))
  f120 := Tryd.func32.trans (congrArg some (by kernel_rfl))
  f137 := Tryd.func33.trans (congrArg some (by kernel_rfl))
  f151 := Tryd.func27.trans (congrArg some (by kernel_rfl))
  f152 := Tryd.func31.trans (congrArg some (by kernel_rfl))
  f160 := Tryd.func14.trans (congrArg some (by kernel_rfl))
  f197 := Tryd.func26.trans (congrArg some (by kernel_rfl))
  f217 := Tryd.func37.trans (congrArg some (by kernel_rfl))
  f224 := Tryd.func35.trans (congrArg some (by kernel_rfl))
  f225 := Tryd.func36.trans (congrArg some (by kernel_rfl))
  f227 := Tryd.func19.trans (congrArg some (by kernel_rfl))
  f228 := Tryd.func25.trans (congrArg some (by kernel_rfl))
  f231 := Tryd.func17.trans (congrArg some (by kernel_rfl))
  f232 := Tryd.func18.trans (congrArg some (by kernel_rfl))
  f233 := Tryd.func20.trans (congrArg some (by kernel_rfl))
  f234 := Tryd.func21.trans (congrArg some (by kernel_rfl))
  f235 := Tryd.func22.trans (congrArg some (by kernel_rfl))
  f236 := Tryd.func23.trans (congrArg some (by kernel_rfl))
  f260 := Tryd.func30.trans (congrArg some (by kernel_rfl))
  f266 := Tryd.func38.trans (congrArg some (by kernel_rfl))
  f271 := Tryd.func28.trans (congrArg some (by kernel_rfl))
  t0 := Tryd.underlying0
  a0 := Tryd.isAgg0
  z0 := Tryd.sizeOf0
  v0 := Tryd.zeroValue0
  t3 := Tryd.underlying3
  a3 := Tryd.isAgg3
  z3 := Tryd.sizeOf3
  v3 := Tryd.zeroValue3
  t4 := Tryd.underlying4
  a4 := Tryd.isAgg4
  z4 := Tryd.sizeOf4
  v4 := Tryd.zeroValue4
  t5 := Tryd.underlying5
  a5 := Tryd.isAgg5
  z5 := Tryd.sizeOf5
  v5 := Tryd.zeroValue5
  t9 := Tryd.underlying9
  a9 := Tryd.isAgg9
  z9 := Tryd.sizeOf9
  v9 := Tryd.zeroValue9
  t21 := Tryd.underlying21
  a21 := Tryd.isAgg21
  z21 := Tryd.sizeOf21
  v21 := Tryd.zeroValue21
  t46 := Tryd.underlying50
  a46 := Tryd.isAgg50
  z46 := Tryd.sizeOf50
  v46 := Tryd.zeroValue50
  t105 := Tryd.underlying45
  a105 := Tryd.isAgg45
  z105 := Tryd.sizeOf45
  v105 := Tryd.zeroValue45
  t116 := Tryd.underlying39
  a116 := Tryd.isAgg39
  z116 := Tryd.sizeOf39
  t117 := Tryd.underlying40
  a117 := Tryd.isAgg40
  z117 := Tryd.sizeOf40
  v117 := Tryd.zeroValue40
  t119 := Tryd.underlying49
  a119 := Tryd.isAgg49
  z119 := Tryd.sizeOf49
  t124 := Tryd.underlying43
  a124 := Tryd.isAgg43
  z124 := Tryd.sizeOf43
  v124 := Tryd.zeroValue43
  t138 := Tryd.underlying52
  a138 := Tryd.isAgg52
  z138 := Tryd.sizeOf52
  v138 := Tryd.zeroValue52
  t139 := Tryd.underlying53
  a139 := Tryd.isAgg53
  z139 := Tryd.sizeOf53
  v139 := Tryd.zeroValue53
  g3 := by kernel_rfl
  g4 := by kernel_rfl }

set_option maxHeartbeats 1000000 in
theorem trim_q (s : ByteArray) (hs : s.size ≤ 9223372036854775807) (w : World) : Calls Tryd.prog 14 #[.string s, .string ⟨#[76, 82]⟩] w fun e w' => e = .returned (.string ⟨(Lib.trimS s.data.toList [76, 82]).toArray⟩) ∧ Below w.heap.size w w' := by
  have hcon := Any.strings_Trim_laid trimLay (by kernel_rfl) s ⟨#[76, 82]⟩ w hs (by decide) (ascii_of_all (by decide))
  exact hcon

def okPath (s : ByteArray) : Bool := decide ((s.size : Int) ≤ 60) && (⟨(Lib.trimS s.data.toList [76, 82]).toArray⟩ : ByteArray).toList.isEmpty
set_option maxHeartbeats 1000000 in
theorem isPath_q (s : ByteArray) (hs : s.size ≤ 9223372036854775807) (w : World) : Calls Tryd.prog 10 #[.string s, .int .i64 60] w fun e w' => e = .returned (.bool (okPath s)) ∧ Below w.heap.size w w' := by
  have hcon := trim_q s hs w
  unfold okPath
  generalize (⟨(Lib.trimS s.data.toList [76, 82]).toArray⟩ : ByteArray) = r at hcon ⊢
  by_cases h60 : (s.size : Int) ≤ 60
  · go_enter Tryd.func10, Tryd.ntmps10
    go_wp2_with (go_at_call 14; refine hcon.mono ?_; rintro e w' ⟨rfl, hB⟩)
    all_goals go_ret
    all_goals exact ⟨by rw [decide_eq_true h60]; rfl, hB⟩
  · go_enter Tryd.func10, Tryd.ntmps10
    go_wp2
    go_ret
    exact ⟨by rw [decide_eq_false (show ¬ ((s.size : Int) ≤ 60) by omega)]; rfl, Below.refl _ _⟩

theorem size_len (s : ByteArray) : s.size = s.data.toList.length := by simp
theorem okPath_iff (s : ByteArray) : okPath s = true ↔ s.data.toList.length ≤ 60 ∧ ∀ x ∈ s.data.toList, x = 76 ∨ x = 82 := by
  unfold okPath
  rw [ByteArray.toList_eq, size_len]
  simp only [Bool.and_eq_true, decide_eq_true_eq, List.isEmpty_iff, List.toList_toArray]
  rw [trimS_nil]
  constructor
  · rintro ⟨h1, h2⟩
    refine ⟨by omega, fun x hx => ?_⟩
    have := h2 x hx
    simpa using this
  · rintro ⟨h1, h2⟩
    refine ⟨by omega, fun x hx => ?_⟩
    have := h2 x hx
    simpa using this
theorem c_impl_isPath {s : ByteArray} (hs : s.size ≤ 9223372036854775807) : Pure Tryd.prog n_impl_isPath [.string s, ii 60] (bb (okPath s)) := ⟨fn_impl_isPath.enters, rfl, rfl, fun w => isPath_q s hs w⟩

end Go.Proofs.YtnjepaboecijcaaDoor
