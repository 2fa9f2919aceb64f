/-
  The types of this translation, as the evaluator reads them; and what is known of each function's text.
  Conditions: none.
-/
import Derived.Test.YtndmkibdcfpddaaEvUse
import Derived.Test.YtndmkibdcfpddaaEvEqS
import Derived.Test.YtndmkibdcfpddaaRows
import Derived.KernelRfl
set_option linter.unusedVariables false
set_option linter.unusedSimpArgs false
namespace Go.Proofs.Ytndmkibdcfpddaa
open Go.Ev Go.RowKit

def ti2 : TI := { t := 2, size := 1, zero := [.int .i64 0], sh := .int .i64, bytes := 8 }
def ti3 : TI := { t := 3, size := 1, zero := [.int .i64 0], sh := .int .i64, bytes := 8 }
def ti4 : TI := { t := 4, size := 1, zero := [.bool false], sh := .bool, bytes := 1 }
def ti5 : TI := { t := 5, size := 1, zero := [.int .u8 0], sh := .int .u8, bytes := 1 }
def ti9 : TI := { t := 9, size := 1, zero := [.string ⟨#[]⟩], sh := .string, bytes := 16 }
def ti21 : TI := { t := 21, size := 1, zero := [.int .i32 0], sh := .int .i32, bytes := 4 }
def ti22 : TI := { t := 22, size := 3, zero := [.int .i64 0, .int .i64 0, .int .i64 0], sh := .arr 3 2 1 false, eqs := true, bytes := 24 }
def ti23 : TI := { t := 23, size := 9, zero := [.int .i64 0, .int .i64 0, .int .i64 0, .int .i64 0, .int .i64 0, .int .i64 0, .int .i64 0, .int .i64 0, .int .i64 0], sh := .arr 3 22 3 true, bytes := 72 }
def ti26 : TI := { t := 26, size := 3, zero := [.int .i64 0, .int .i64 0, .int .i64 0], sh := .arr 3 2 1 false, eqs := true, bytes := 24 }
def ti27 : TI := { t := 27, size := 9, zero := [.int .i64 0, .int .i64 0, .int .i64 0, .int .i64 0, .int .i64 0, .int .i64 0, .int .i64 0, .int .i64 0, .int .i64 0], sh := .arr 3 26 3 true, bytes := 72 }
def ti28 : TI := { t := 28, size := 9, zero := [.int .i64 0, .int .i64 0, .int .i64 0, .int .i64 0, .int .i64 0, .int .i64 0, .int .i64 0, .int .i64 0, .int .i64 0], sh := .arr 3 26 3 true, bytes := 72 }
def ti32 : TI := { t := 32, size := 1, zero := [.slice none 0 0], sh := .slice 2 1, bytes := 24 }
def ti37 : TI := { t := 37, size := 12, zero := [.int .i64 0, .int .i64 0, .int .i64 0, .int .i64 0, .int .i64 0, .int .i64 0, .int .i64 0, .int .i64 0, .int .i64 0, .int .i64 0, .int .i64 0, .int .i64 0], sh := .arr 4 22 3 true, bytes := 96 }
def ti40 : TI := { t := 40, size := 12, zero := [.int .i64 0, .int .i64 0, .int .i64 0, .int .i64 0, .int .i64 0, .int .i64 0, .int .i64 0, .int .i64 0, .int .i64 0, .int .i64 0, .int .i64 0, .int .i64 0], sh := .arr 4 26 3 true, bytes := 96 }
def ti41 : TI := { t := 41, size := 12, zero := [.int .i64 0, .int .i64 0, .int .i64 0, .int .i64 0, .int .i64 0, .int .i64 0, .int .i64 0, .int .i64 0, .int .i64 0, .int .i64 0, .int .i64 0, .int .i64 0], sh := .arr 4 26 3 true, bytes := 96 }
def ti45 : TI := { t := 45, size := 1, zero := [.slice none 0 0], sh := .slice 5 1, bytes := 24 }
def ti52 : TI := { t := 52, size := 1, zero := [.slice none 0 0], sh := .slice 26 3, bytes := 24 }
def ti68 : TI := { t := 68, size := 1, zero := [.pointer none], sh := .cell, bytes := 8 }
def ti91 : TI := { t := 91, size := 1, zero := [.int .u64 0], sh := .int .u64, bytes := 8 }
def ti92 : TI := { t := 92, size := 3, zero := [.slice none 0 0, .int .i64 0, .int .u64 0], sh := .str [(0, 1, false), (1, 1, false), (2, 1, false)], bytes := 40 }
def ti93 : TI := { t := 93, size := 3, zero := [.slice none 0 0, .int .i64 0, .int .u64 0], sh := .str [(0, 1, false), (1, 1, false), (2, 1, false)], bytes := 40 }
def ti100 : TI := { t := 100, size := 1, zero := [.map none], sh := .cell, bytes := 8 }
def ti103 : TI := { t := 103, size := 1, zero := [.int .u64 0], sh := .int .u64, bytes := 8 }
def ti106 : TI := { t := 106, size := 1, zero := [.slice none 0 0], sh := .slice 3 1, bytes := 24 }
def ti108 : TI := { t := 108, size := 1, zero := [.int .i64 0], sh := .int .i64, bytes := 8 }
def ti116 : TI := { t := 116, size := 1, zero := [.int .u32 0], sh := .int .u32, bytes := 4 }
def ti118 : TI := { t := 118, size := 1, zero := [.int .u64 0], sh := .int .u64, bytes := 8 }
def ti122 : TI := { t := 122, size := 1, zero := [.pointer none], sh := .cell, bytes := 8 }
def ti124 : TI := { t := 124, size := 1, zero := [.pointer none], sh := .cell, bytes := 8 }
def ti128 : TI := { t := 128, size := 4, zero := [.pointer none, .pointer none, .pointer none, .string ⟨#[]⟩], sh := .str [(0, 1, false), (1, 1, false), (2, 1, false), (3, 1, false)], bytes := 40 }
def ti130 : TI := { t := 130, size := 0, zero := [], sh := .arr 0 16 1 false, bytes := 0 }
def ti131 : TI := { t := 131, size := 0, zero := [], sh := .str [(0, 0, true)], bytes := 0 }
def ti137 : TI := { t := 137, size := 1, zero := [.pointer none], sh := .cell, bytes := 8 }
def ti140 : TI := { t := 140, size := 11, zero := [.int .u64 0, .int .u64 0, .int .u32 0, .int .u8 0, .int .u8 0, .int .u8 0, .int .u8 0, .nilFunc, .pointer none, .int .i32 0, .int .i32 0], sh := .str [(0, 1, false), (1, 1, false), (2, 1, false), (3, 1, false), (4, 1, false), (5, 1, false), (6, 1, false), (7, 1, false), (8, 1, false), (9, 1, false), (10, 1, false)], bytes := 48 }

def tbl : Tbl := [ti2, ti3, ti4, ti5, ti9, ti21, ti22, ti23, ti26, ti27, ti28, ti32, ti37, ti40, ti41, ti45, ti52, ti68, ti91, ti92, ti93, ti100, ti103, ti106, ti108, ti116, ti118, ti122, ti124, ti128, ti130, ti131, ti137, ti140]

theorem ti2_ok : ti2.Ok Try.prog := ⟨by kernel_rfl, (show Try.prog.underlying 2 = some (.int .i64) by kernel_rfl), rfl, fun h => by cases h⟩
theorem ti3_ok : ti3.Ok Try.prog := ⟨by kernel_rfl, (show Try.prog.underlying 3 = some (.int .i64) by kernel_rfl), rfl, fun h => by cases h⟩
theorem ti4_ok : ti4.Ok Try.prog := ⟨by kernel_rfl, (show Try.prog.underlying 4 = some .bool by kernel_rfl), rfl, fun h => by cases h⟩
theorem ti5_ok : ti5.Ok Try.prog := ⟨by kernel_rfl, (show Try.prog.underlying 5 = some (.int .u8) by kernel_rfl), rfl, fun h => by cases h⟩
theorem ti9_ok : ti9.Ok Try.prog := ⟨by kernel_rfl, (show Try.prog.underlying 9 = some .string by kernel_rfl), rfl, fun h => by cases h⟩
theorem ti21_ok : ti21.Ok Try.prog := ⟨by kernel_rfl, (show Try.prog.underlying 21 = some (.int .i32) by kernel_rfl), rfl, fun h => by cases h⟩
theorem ti22_ok : ti22.Ok Try.prog := ⟨by kernel_rfl, ⟨by kernel_rfl, by kernel_rfl, by kernel_rfl⟩, rfl, fun _ => eq_arr3 (e := 2) (by kernel_rfl) (by kernel_rfl) (by kernel_rfl) (by kernel_rfl)⟩
theorem ti23_ok : ti23.Ok Try.prog := ⟨by kernel_rfl, ⟨by kernel_rfl, by kernel_rfl, by kernel_rfl⟩, rfl, fun h => by cases h⟩
theorem ti26_ok : ti26.Ok Try.prog := ⟨by kernel_rfl, ⟨by kernel_rfl, by kernel_rfl, by kernel_rfl⟩, rfl, fun _ => eq_arr3 (e := 2) (by kernel_rfl) (by kernel_rfl) (by kernel_rfl) (by kernel_rfl)⟩
theorem ti27_ok : ti27.Ok Try.prog := ⟨by kernel_rfl, ⟨by kernel_rfl, by kernel_rfl, by kernel_rfl⟩, rfl, fun h => by cases h⟩
theorem ti28_ok : ti28.Ok Try.prog := ⟨by kernel_rfl, ⟨by kernel_rfl, by kernel_rfl, by kernel_rfl⟩, rfl, fun h => by cases h⟩
theorem ti32_ok : ti32.Ok Try.prog := ⟨by kernel_rfl, ⟨by kernel_rfl, by kernel_rfl⟩, rfl, fun h => by cases h⟩
theorem ti37_ok : ti37.Ok Try.prog := ⟨by kernel_rfl, ⟨by kernel_rfl, by kernel_rfl, by kernel_rfl⟩, rfl, fun h => by cases h⟩
theorem ti40_ok : ti40.Ok Try.prog := ⟨by kernel_rfl, ⟨by kernel_rfl, by kernel_rfl, by kernel_rfl⟩, rfl, fun h => by cases h⟩
theorem ti41_ok : ti41.Ok Try.prog := ⟨by kernel_rfl, ⟨by kernel_rfl, by kernel_rfl, by kernel_rfl⟩, rfl, fun h => by cases h⟩
theorem ti45_ok : ti45.Ok Try.prog := ⟨by kernel_rfl, ⟨by kernel_rfl, by kernel_rfl⟩, rfl, fun h => by cases h⟩
theorem ti52_ok : ti52.Ok Try.prog := ⟨by kernel_rfl, ⟨by kernel_rfl, by kernel_rfl⟩, rfl, fun h => by cases h⟩
theorem ti68_ok : ti68.Ok Try.prog := ⟨by kernel_rfl, (show (Try.prog.underlying 68).map aggD = some false by kernel_rfl), rfl, fun h => by cases h⟩
theorem ti91_ok : ti91.Ok Try.prog := ⟨by kernel_rfl, (show Try.prog.underlying 91 = some (.int .u64) by kernel_rfl), rfl, fun h => by cases h⟩
theorem ti92_ok : ti92.Ok Try.prog := ⟨by kernel_rfl, ⟨Try.prog.fieldsOf 92, by kernel_rfl, by kernel_rfl⟩, rfl, fun h => by cases h⟩
theorem ti93_ok : ti93.Ok Try.prog := ⟨by kernel_rfl, ⟨Try.prog.fieldsOf 93, by kernel_rfl, by kernel_rfl⟩, rfl, fun h => by cases h⟩
theorem ti100_ok : ti100.Ok Try.prog := ⟨by kernel_rfl, (show (Try.prog.underlying 100).map aggD = some false by kernel_rfl), rfl, fun h => by cases h⟩
theorem ti103_ok : ti103.Ok Try.prog := ⟨by kernel_rfl, (show Try.prog.underlying 103 = some (.int .u64) by kernel_rfl), rfl, fun h => by cases h⟩
theorem ti106_ok : ti106.Ok Try.prog := ⟨by kernel_rfl, ⟨by kernel_rfl, by kernel_rfl⟩, rfl, fun h => by cases h⟩
theorem ti108_ok : ti108.Ok Try.prog := ⟨by kernel_rfl, (show Try.prog.underlying 108 = some (.int .i64) by kernel_rfl), rfl, fun h => by cases h⟩
theorem ti116_ok : ti116.Ok Try.prog := ⟨by kernel_rfl, (show Try.prog.underlying 116 = some (.int .u32) by kernel_rfl), rfl, fun h => by cases h⟩
theorem ti118_ok : ti118.Ok Try.prog := ⟨by kernel_rfl, (show Try.prog.underlying 118 = some (.int .u64) by kernel_rfl), rfl, fun h => by cases h⟩
theorem ti122_ok : ti122.Ok Try.prog := ⟨by kernel_rfl, (show (Try.prog.underlying 122).map aggD = some false by kernel_rfl), rfl, fun h => by cases h⟩
theorem ti124_ok : ti124.Ok Try.prog := ⟨by kernel_rfl, (show (Try.prog.underlying 124).map aggD = some false by kernel_rfl), rfl, fun h => by cases h⟩
theorem ti128_ok : ti128.Ok Try.prog := ⟨by kernel_rfl, ⟨Try.prog.fieldsOf 128, by kernel_rfl, by kernel_rfl⟩, rfl, fun h => by cases h⟩
theorem ti130_ok : ti130.Ok Try.prog := ⟨by kernel_rfl, ⟨by kernel_rfl, by kernel_rfl, by kernel_rfl⟩, rfl, fun h => by cases h⟩
theorem ti131_ok : ti131.Ok Try.prog := ⟨by kernel_rfl, ⟨Try.prog.fieldsOf 131, by kernel_rfl, by kernel_rfl⟩, rfl, fun h => by cases h⟩
theorem ti137_ok : ti137.Ok Try.prog := ⟨by kernel_rfl, (show (Try.prog.underlying 137).map aggD = some false by kernel_rfl), rfl, fun h => by cases h⟩
theorem ti140_ok : ti140.Ok Try.prog := ⟨by kernel_rfl, ⟨Try.prog.fieldsOf 140, by kernel_rfl, by kernel_rfl⟩, rfl, fun h => by cases h⟩
abbrev t_impl_Spot : Nat := 26
abbrev t_impl_Cone : Nat := 28
abbrev t_L_int64 : Nat := 32
abbrev t_impl_Tetra : Nat := 41
abbrev t_L_uint8 : Nat := 45
abbrev t_L_impl_Spot : Nat := 52
abbrev t_spec_l01Source : Nat := 93
abbrev t_L_int : Nat := 106
abbrev t_slices_sortedHint : Nat := 108
abbrev t_slices_xorshift : Nat := 118

theorem tbl_ok : tbl.Ok Try.prog := by
  intro i hi
  simp only [tbl, List.mem_cons, List.not_mem_nil, or_false] at hi
  rcases hi with rfl | rfl | rfl | rfl | rfl | rfl | rfl | rfl | rfl | rfl | rfl | rfl | rfl | rfl | rfl | rfl | rfl | rfl | rfl | rfl | rfl | rfl | rfl | rfl | rfl | rfl | rfl | rfl | rfl | rfl | rfl | rfl | rfl | rfl
  all_goals first
    | exact ti2_ok
    | exact ti3_ok
    | exact ti4_ok
    | exact ti5_ok
    | exact ti9_ok
    | exact ti21_ok
    | exact ti22_ok
    | exact ti23_ok
    | exact ti26_ok
    | exact ti27_ok
    | exact ti28_ok
    | exact ti32_ok
    | exact ti37_ok
    | exact ti40_ok
    | exact ti41_ok
    | exact ti45_ok
    | exact ti52_ok
    | exact ti68_ok
    | exact ti91_ok
    | exact ti92_ok
    | exact ti93_ok
    | exact ti100_ok
    | exact ti103_ok
    | exact ti106_ok
    | exact ti108_ok
    | exact ti116_ok
    | exact ti118_ok
    | exact ti122_ok
    | exact ti124_ok
    | exact ti128_ok
    | exact ti130_ok
    | exact ti131_ok
    | exact ti137_ok
    | exact ti140_ok

theorem good : EvGood Try.prog tbl := ⟨tbl_ok, by kernel_rfl⟩

noncomputable def code3 : Code := (Try.f3.body).getD .skip
abbrev n_laws_FnExactIsInCone : Nat := 3
theorem fn_laws_FnExactIsInCone : IsFn Try.prog 3 Try.f3 code3 := ⟨Try.func3, rfl, by kernel_rfl⟩
noncomputable def code4 : Code := (Try.f4.body).getD .skip
abbrev n_laws_FnExactCoordinatesIn : Nat := 4
theorem fn_laws_FnExactCoordinatesIn : IsFn Try.prog 4 Try.f4 code4 := ⟨Try.func4, rfl, by kernel_rfl⟩
noncomputable def code5 : Code := (Try.f5.body).getD .skip
abbrev n_laws_FnExactCountSpots : Nat := 5
theorem fn_laws_FnExactCountSpots : IsFn Try.prog 5 Try.f5 code5 := ⟨Try.func5, rfl, by kernel_rfl⟩
noncomputable def code6 : Code := (Try.f6.body).getD .skip
abbrev n_laws_FnExactIsEmptyTetra : Nat := 6
theorem fn_laws_FnExactIsEmptyTetra : IsFn Try.prog 6 Try.f6 code6 := ⟨Try.func6, rfl, by kernel_rfl⟩
noncomputable def code7 : Code := (Try.f7.body).getD .skip
abbrev n_laws_FnTetras : Nat := 7
theorem fn_laws_FnTetras : IsFn Try.prog 7 Try.f7 code7 := ⟨Try.func7, rfl, by kernel_rfl⟩
noncomputable def code8 : Code := (Try.f8.body).getD .skip
abbrev n_laws_FnExactBoxOf : Nat := 8
theorem fn_laws_FnExactBoxOf : IsFn Try.prog 8 Try.f8 code8 := ⟨Try.func8, rfl, by kernel_rfl⟩
noncomputable def code9 : Code := (Try.f9.body).getD .skip
abbrev n_laws_FnExactHilbertBasis : Nat := 9
theorem fn_laws_FnExactHilbertBasis : IsFn Try.prog 9 Try.f9 code9 := ⟨Try.func9, rfl, by kernel_rfl⟩
noncomputable def code10 : Code := (Try.f10.body).getD .skip
abbrev n_spec_IsInCone : Nat := 10
theorem fn_spec_IsInCone : IsFn Try.prog 10 Try.f10 code10 := ⟨Try.func10, rfl, by kernel_rfl⟩
noncomputable def code11 : Code := (Try.f11.body).getD .skip
abbrev n_laws_toCone : Nat := 11
theorem fn_laws_toCone : IsFn Try.prog 11 Try.f11 code11 := ⟨Try.func11, rfl, by kernel_rfl⟩
noncomputable def code12 : Code := (Try.f12.body).getD .skip
abbrev n_laws_toSpot : Nat := 12
theorem fn_laws_toSpot : IsFn Try.prog 12 Try.f12 code12 := ⟨Try.func12, rfl, by kernel_rfl⟩
noncomputable def code13 : Code := (Try.f13.body).getD .skip
abbrev n_impl_IsInCone : Nat := 13
theorem fn_impl_IsInCone : IsFn Try.prog 13 Try.f13 code13 := ⟨Try.func13, rfl, by kernel_rfl⟩
noncomputable def code14 : Code := (Try.f14.body).getD .skip
abbrev n_spec_CoordinatesIn : Nat := 14
theorem fn_spec_CoordinatesIn : IsFn Try.prog 14 Try.f14 code14 := ⟨Try.func14, rfl, by kernel_rfl⟩
noncomputable def code15 : Code := (Try.f15.body).getD .skip
abbrev n_impl_CoordinatesIn : Nat := 15
theorem fn_impl_CoordinatesIn : IsFn Try.prog 15 Try.f15 code15 := ⟨Try.func15, rfl, by kernel_rfl⟩
noncomputable def code16 : Code := (Try.f16.body).getD .skip
abbrev n_laws_eqInt64S : Nat := 16
theorem fn_laws_eqInt64S : IsFn Try.prog 16 Try.f16 code16 := ⟨Try.func16, rfl, by kernel_rfl⟩
noncomputable def code17 : Code := (Try.f17.body).getD .skip
abbrev n_laws_markInt64S : Nat := 17
theorem fn_laws_markInt64S : IsFn Try.prog 17 Try.f17 code17 := ⟨Try.func17, rfl, by kernel_rfl⟩
noncomputable def code18 : Code := (Try.f18.body).getD .skip
abbrev n_laws_heldInt64S : Nat := 18
theorem fn_laws_heldInt64S : IsFn Try.prog 18 Try.f18 code18 := ⟨Try.func18, rfl, by kernel_rfl⟩
noncomputable def code19 : Code := (Try.f19.body).getD .skip
abbrev n_spec_CountSpots : Nat := 19
theorem fn_spec_CountSpots : IsFn Try.prog 19 Try.f19 code19 := ⟨Try.func19, rfl, by kernel_rfl⟩
noncomputable def code20 : Code := (Try.f20.body).getD .skip
abbrev n_laws_toTetra : Nat := 20
theorem fn_laws_toTetra : IsFn Try.prog 20 Try.f20 code20 := ⟨Try.func20, rfl, by kernel_rfl⟩
noncomputable def code21 : Code := (Try.f21.body).getD .skip
abbrev n_impl_CountSpots : Nat := 21
theorem fn_impl_CountSpots : IsFn Try.prog 21 Try.f21 code21 := ⟨Try.func21, rfl, by kernel_rfl⟩
noncomputable def code22 : Code := (Try.f22.body).getD .skip
abbrev n_spec_IsEmptyTetra : Nat := 22
theorem fn_spec_IsEmptyTetra : IsFn Try.prog 22 Try.f22 code22 := ⟨Try.func22, rfl, by kernel_rfl⟩
noncomputable def code23 : Code := (Try.f23.body).getD .skip
abbrev n_impl_IsEmptyTetra : Nat := 23
theorem fn_impl_IsEmptyTetra : IsFn Try.prog 23 Try.f23 code23 := ⟨Try.func23, rfl, by kernel_rfl⟩
noncomputable def code24 : Code := (Try.f24.body).getD .skip
abbrev n_laws_big : Nat := 24
theorem fn_laws_big : IsFn Try.prog 24 Try.f24 code24 := ⟨Try.func24, rfl, by kernel_rfl⟩
noncomputable def code25 : Code := (Try.f25.body).getD .skip
abbrev n_spec_DrawCountSpots : Nat := 25
theorem fn_spec_DrawCountSpots : IsFn Try.prog 25 Try.f25 code25 := ⟨Try.func25, rfl, by kernel_rfl⟩
noncomputable def code26 : Code := (Try.f26.body).getD .skip
abbrev n_impl_IsTetra : Nat := 26
theorem fn_impl_IsTetra : IsFn Try.prog 26 Try.f26 code26 := ⟨Try.func26, rfl, by kernel_rfl⟩
noncomputable def code27 : Code := (Try.f27.body).getD .skip
abbrev n_spec_IsTetra : Nat := 27
theorem fn_spec_IsTetra : IsFn Try.prog 27 Try.f27 code27 := ⟨Try.func27, rfl, by kernel_rfl⟩
noncomputable def code28 : Code := (Try.f28.body).getD .skip
abbrev n_spec_DrawIsEmptyTetra : Nat := 28
theorem fn_spec_DrawIsEmptyTetra : IsFn Try.prog 28 Try.f28 code28 := ⟨Try.func28, rfl, by kernel_rfl⟩
noncomputable def code29 : Code := (Try.f29.body).getD .skip
abbrev n_spec_DrawVolumeOf : Nat := 29
theorem fn_spec_DrawVolumeOf : IsFn Try.prog 29 Try.f29 code29 := ⟨Try.func29, rfl, by kernel_rfl⟩
noncomputable def code30 : Code := (Try.f30.body).getD .skip
abbrev n_impl_VolumeOf : Nat := 30
theorem fn_impl_VolumeOf : IsFn Try.prog 30 Try.f30 code30 := ⟨Try.func30, rfl, by kernel_rfl⟩
noncomputable def code31 : Code := (Try.f31.body).getD .skip
abbrev n_spec_VolumeOf : Nat := 31
theorem fn_spec_VolumeOf : IsFn Try.prog 31 Try.f31 code31 := ⟨Try.func31, rfl, by kernel_rfl⟩
noncomputable def code32 : Code := (Try.f32.body).getD .skip
abbrev n_spec_DrawDistanceOfSpot : Nat := 32
theorem fn_spec_DrawDistanceOfSpot : IsFn Try.prog 32 Try.f32 code32 := ⟨Try.func32, rfl, by kernel_rfl⟩
noncomputable def code33 : Code := (Try.f33.body).getD .skip
abbrev n_impl_DistanceOfSpot : Nat := 33
theorem fn_impl_DistanceOfSpot : IsFn Try.prog 33 Try.f33 code33 := ⟨Try.func33, rfl, by kernel_rfl⟩
noncomputable def code34 : Code := (Try.f34.body).getD .skip
abbrev n_spec_DistanceOfSpot : Nat := 34
theorem fn_spec_DistanceOfSpot : IsFn Try.prog 34 Try.f34 code34 := ⟨Try.func34, rfl, by kernel_rfl⟩
noncomputable def code35 : Code := (Try.f35.body).getD .skip
abbrev n_spec_BoxOf : Nat := 35
theorem fn_spec_BoxOf : IsFn Try.prog 35 Try.f35 code35 := ⟨Try.func35, rfl, by kernel_rfl⟩
noncomputable def code36 : Code := (Try.f36.body).getD .skip
abbrev n_impl_BoxOf : Nat := 36
theorem fn_impl_BoxOf : IsFn Try.prog 36 Try.f36 code36 := ⟨Try.func36, rfl, by kernel_rfl⟩
noncomputable def code37 : Code := (Try.f37.body).getD .skip
abbrev n_laws_eqSpotS : Nat := 37
theorem fn_laws_eqSpotS : IsFn Try.prog 37 Try.f37 code37 := ⟨Try.func37, rfl, by kernel_rfl⟩
noncomputable def code38 : Code := (Try.f38.body).getD .skip
abbrev n_laws_markSpotS : Nat := 38
theorem fn_laws_markSpotS : IsFn Try.prog 38 Try.f38 code38 := ⟨Try.func38, rfl, by kernel_rfl⟩
noncomputable def code39 : Code := (Try.f39.body).getD .skip
abbrev n_laws_heldSpotS : Nat := 39
theorem fn_laws_heldSpotS : IsFn Try.prog 39 Try.f39 code39 := ⟨Try.func39, rfl, by kernel_rfl⟩
noncomputable def code40 : Code := (Try.f40.body).getD .skip
abbrev n_spec_HilbertBasis : Nat := 40
theorem fn_spec_HilbertBasis : IsFn Try.prog 40 Try.f40 code40 := ⟨Try.func40, rfl, by kernel_rfl⟩
noncomputable def code41 : Code := (Try.f41.body).getD .skip
abbrev n_impl_HilbertBasis : Nat := 41
theorem fn_impl_HilbertBasis : IsFn Try.prog 41 Try.f41 code41 := ⟨Try.func41, rfl, by kernel_rfl⟩
noncomputable def code42 : Code := (Try.f42.body).getD .skip
abbrev n_spec_l08Code : Nat := 42
theorem fn_spec_l08Code : IsFn Try.prog 42 Try.f42 code42 := ⟨Try.func42, rfl, by kernel_rfl⟩
noncomputable def code43 : Code := (Try.f43.body).getD .skip
abbrev n_spec_l08Inside : Nat := 43
theorem fn_spec_l08Inside : IsFn Try.prog 43 Try.f43 code43 := ⟨Try.func43, rfl, by kernel_rfl⟩
noncomputable def code44 : Code := (Try.f44.body).getD .skip
abbrev n_impl_IsCone : Nat := 44
theorem fn_impl_IsCone : IsFn Try.prog 44 Try.f44 code44 := ⟨Try.func44, rfl, by kernel_rfl⟩
noncomputable def code45 : Code := (Try.f45.body).getD .skip
abbrev n_impl_IsSpot : Nat := 45
theorem fn_impl_IsSpot : IsFn Try.prog 45 Try.f45 code45 := ⟨Try.func45, rfl, by kernel_rfl⟩
noncomputable def code46 : Code := (Try.f46.body).getD .skip
abbrev n_impl_Cone_coordinates : Nat := 46
theorem fn_impl_Cone_coordinates : IsFn Try.prog 46 Try.f46 code46 := ⟨Try.func46, rfl, by kernel_rfl⟩
noncomputable def code47 : Code := (Try.f47.body).getD .skip
abbrev n_impl_Spot_notNegative : Nat := 47
theorem fn_impl_Spot_notNegative : IsFn Try.prog 47 Try.f47 code47 := ⟨Try.func47, rfl, by kernel_rfl⟩
noncomputable def code48 : Code := (Try.f48.body).getD .skip
abbrev n_spec_l08Coordinates : Nat := 48
theorem fn_spec_l08Coordinates : IsFn Try.prog 48 Try.f48 code48 := ⟨Try.func48, rfl, by kernel_rfl⟩
noncomputable def code49 : Code := (Try.f49.body).getD .skip
abbrev n_spec_l08Tetra : Nat := 49
theorem fn_spec_l08Tetra : IsFn Try.prog 49 Try.f49 code49 := ⟨Try.func49, rfl, by kernel_rfl⟩
noncomputable def code50 : Code := (Try.f50.body).getD .skip
abbrev n_spec_l08Count : Nat := 50
theorem fn_spec_l08Count : IsFn Try.prog 50 Try.f50 code50 := ⟨Try.func50, rfl, by kernel_rfl⟩
noncomputable def code51 : Code := (Try.f51.body).getD .skip
abbrev n_impl_Tetra_count : Nat := 51
theorem fn_impl_Tetra_count : IsFn Try.prog 51 Try.f51 code51 := ⟨Try.func51, rfl, by kernel_rfl⟩
noncomputable def code52 : Code := (Try.f52.body).getD .skip
abbrev n_spec_l08DrawTetra : Nat := 52
theorem fn_spec_l08DrawTetra : IsFn Try.prog 52 Try.f52 code52 := ⟨Try.func52, rfl, by kernel_rfl⟩
noncomputable def code53 : Code := (Try.f53.body).getD .skip
abbrev n_spec_l01From : Nat := 53
theorem fn_spec_l01From : IsFn Try.prog 53 Try.f53 code53 := ⟨Try.func53, rfl, by kernel_rfl⟩
noncomputable def code54 : Code := (Try.f54.body).getD .skip
abbrev n_impl_spots : Nat := 54
theorem fn_impl_spots : IsFn Try.prog 54 Try.f54 code54 := ⟨Try.func54, rfl, by kernel_rfl⟩
noncomputable def code55 : Code := (Try.f55.body).getD .skip
abbrev n_impl_Tetra_volume : Nat := 55
theorem fn_impl_Tetra_volume : IsFn Try.prog 55 Try.f55 code55 := ⟨Try.func55, rfl, by kernel_rfl⟩
noncomputable def code56 : Code := (Try.f56.body).getD .skip
abbrev n_spec_l08Volume : Nat := 56
theorem fn_spec_l08Volume : IsFn Try.prog 56 Try.f56 code56 := ⟨Try.func56, rfl, by kernel_rfl⟩
noncomputable def code57 : Code := (Try.f57.body).getD .skip
abbrev n_spec_l01Pick : Nat := 57
theorem fn_spec_l01Pick : IsFn Try.prog 57 Try.f57 code57 := ⟨Try.func57, rfl, by kernel_rfl⟩
noncomputable def code58 : Code := (Try.f58.body).getD .skip
abbrev n_spec_l08DrawSpot : Nat := 58
theorem fn_spec_l08DrawSpot : IsFn Try.prog 58 Try.f58 code58 := ⟨Try.func58, rfl, by kernel_rfl⟩
noncomputable def code59 : Code := (Try.f59.body).getD .skip
abbrev n_impl_cross : Nat := 59
theorem fn_impl_cross : IsFn Try.prog 59 Try.f59 code59 := ⟨Try.func59, rfl, by kernel_rfl⟩
noncomputable def code60 : Code := (Try.f60.body).getD .skip
abbrev n_impl_Spot_less : Nat := 60
theorem fn_impl_Spot_less : IsFn Try.prog 60 Try.f60 code60 := ⟨Try.func60, rfl, by kernel_rfl⟩
noncomputable def code61 : Code := (Try.f61.body).getD .skip
abbrev n_impl_size : Nat := 61
theorem fn_impl_size : IsFn Try.prog 61 Try.f61 code61 := ⟨Try.func61, rfl, by kernel_rfl⟩
noncomputable def code62 : Code := (Try.f62.body).getD .skip
abbrev n_impl_volume : Nat := 62
theorem fn_impl_volume : IsFn Try.prog 62 Try.f62 code62 := ⟨Try.func62, rfl, by kernel_rfl⟩
noncomputable def code63 : Code := (Try.f63.body).getD .skip
abbrev n_impl_Spot_length : Nat := 63
theorem fn_impl_Spot_length : IsFn Try.prog 63 Try.f63 code63 := ⟨Try.func63, rfl, by kernel_rfl⟩
noncomputable def code64 : Code := (Try.f64.body).getD .skip
abbrev n_spec_l08Spot : Nat := 64
theorem fn_spec_l08Spot : IsFn Try.prog 64 Try.f64 code64 := ⟨Try.func64, rfl, by kernel_rfl⟩
noncomputable def code65 : Code := (Try.f65.body).getD .skip
abbrev n_spec_l08Cross : Nat := 65
theorem fn_spec_l08Cross : IsFn Try.prog 65 Try.f65 code65 := ⟨Try.func65, rfl, by kernel_rfl⟩
noncomputable def code66 : Code := (Try.f66.body).getD .skip
abbrev n_spec_l08Plus : Nat := 66
theorem fn_spec_l08Plus : IsFn Try.prog 66 Try.f66 code66 := ⟨Try.func66, rfl, by kernel_rfl⟩
noncomputable def code67 : Code := (Try.f67.body).getD .skip
abbrev n_spec_l08Dot : Nat := 67
theorem fn_spec_l08Dot : IsFn Try.prog 67 Try.f67 code67 := ⟨Try.func67, rfl, by kernel_rfl⟩
noncomputable def code68 : Code := (Try.f68.body).getD .skip
abbrev n_spec_l08Length : Nat := 68
theorem fn_spec_l08Length : IsFn Try.prog 68 Try.f68 code68 := ⟨Try.func68, rfl, by kernel_rfl⟩
noncomputable def code69 : Code := (Try.f69.body).getD .skip
abbrev n_spec_l08Is : Nat := 69
theorem fn_spec_l08Is : IsFn Try.prog 69 Try.f69 code69 := ⟨Try.func69, rfl, by kernel_rfl⟩
noncomputable def code70 : Code := (Try.f70.body).getD .skip
abbrev n_spec_l08Size : Nat := 70
theorem fn_spec_l08Size : IsFn Try.prog 70 Try.f70 code70 := ⟨Try.func70, rfl, by kernel_rfl⟩
noncomputable def code71 : Code := (Try.f71.body).getD .skip
abbrev n_spec_l08Box : Nat := 71
theorem fn_spec_l08Box : IsFn Try.prog 71 Try.f71 code71 := ⟨Try.func71, rfl, by kernel_rfl⟩
noncomputable def code72 : Code := (Try.f72.body).getD .skip
abbrev n_impl_boxFault : Nat := 72
theorem fn_impl_boxFault : IsFn Try.prog 72 Try.f72 code72 := ⟨Try.func72, rfl, by kernel_rfl⟩
noncomputable def code73 : Code := (Try.f73.body).getD .skip
abbrev n_impl_Cone_spots : Nat := 73
theorem fn_impl_Cone_spots : IsFn Try.prog 73 Try.f73 code73 := ⟨Try.func73, rfl, by kernel_rfl⟩
noncomputable def code74 : Code := (Try.f74.body).getD .skip
abbrev n_impl_Cone_box : Nat := 74
theorem fn_impl_Cone_box : IsFn Try.prog 74 Try.f74 code74 := ⟨Try.func74, rfl, by kernel_rfl⟩
noncomputable def code75 : Code := (Try.f75.body).getD .skip
abbrev n_laws_eqSpot : Nat := 75
theorem fn_laws_eqSpot : IsFn Try.prog 75 Try.f75 code75 := ⟨Try.func75, rfl, by kernel_rfl⟩
noncomputable def code76 : Code := (Try.f76.body).getD .skip
abbrev n_spec_l08Put : Nat := 76
theorem fn_spec_l08Put : IsFn Try.prog 76 Try.f76 code76 := ⟨Try.func76, rfl, by kernel_rfl⟩
noncomputable def code77 : Code := (Try.f77.body).getD .skip
abbrev n_impl_Cone_det : Nat := 77
theorem fn_impl_Cone_det : IsFn Try.prog 77 Try.f77 code77 := ⟨Try.func77, rfl, by kernel_rfl⟩
noncomputable def code78 : Code := (Try.f78.body).getD .skip
abbrev n_slices_DeleteFunc_Spot : Nat := 78
theorem fn_slices_DeleteFunc_Spot : IsFn Try.prog 78 Try.f78 code78 := ⟨Try.func78, rfl, by kernel_rfl⟩
noncomputable def code79 : Code := (Try.f79.body).getD .skip
abbrev n_slices_Clone_Spot : Nat := 79
theorem fn_slices_Clone_Spot : IsFn Try.prog 79 Try.f79 code79 := ⟨Try.func79, rfl, by kernel_rfl⟩
noncomputable def code80 : Code := (Try.f80.body).getD .skip
abbrev n_impl_HilbertBasis_1 : Nat := 80
theorem fn_impl_HilbertBasis_1 : IsFn Try.prog 80 Try.f80 code80 := ⟨Try.func80, rfl, by kernel_rfl⟩
noncomputable def code81 : Code := (Try.f81.body).getD .skip
abbrev n_slices_ContainsFunc_Spot : Nat := 81
theorem fn_slices_ContainsFunc_Spot : IsFn Try.prog 81 Try.f81 code81 := ⟨Try.func81, rfl, by kernel_rfl⟩
noncomputable def code82 : Code := (Try.f82.body).getD .skip
abbrev n_impl_HilbertBasis_1_1 : Nat := 82
theorem fn_impl_HilbertBasis_1_1 : IsFn Try.prog 82 Try.f82 code82 := ⟨Try.func82, rfl, by kernel_rfl⟩
noncomputable def code83 : Code := (Try.f83.body).getD .skip
abbrev n_slices_ContainsFunc_int64 : Nat := 83
theorem fn_slices_ContainsFunc_int64 : IsFn Try.prog 83 Try.f83 code83 := ⟨Try.func83, rfl, by kernel_rfl⟩
noncomputable def code84 : Code := (Try.f84.body).getD .skip
abbrev n_impl_IsSpot_1 : Nat := 84
theorem fn_impl_IsSpot_1 : IsFn Try.prog 84 Try.f84 code84 := ⟨Try.func84, rfl, by kernel_rfl⟩
noncomputable def code85 : Code := (Try.f85.body).getD .skip
abbrev n_impl_in : Nat := 85
theorem fn_impl_in : IsFn Try.prog 85 Try.f85 code85 := ⟨Try.func85, rfl, by kernel_rfl⟩
noncomputable def code86 : Code := (Try.f86.body).getD .skip
abbrev n_impl_sign : Nat := 86
theorem fn_impl_sign : IsFn Try.prog 86 Try.f86 code86 := ⟨Try.func86, rfl, by kernel_rfl⟩
noncomputable def code87 : Code := (Try.f87.body).getD .skip
abbrev n_spec_l08Det : Nat := 87
theorem fn_spec_l08Det : IsFn Try.prog 87 Try.f87 code87 := ⟨Try.func87, rfl, by kernel_rfl⟩
noncomputable def code88 : Code := (Try.f88.body).getD .skip
abbrev n_impl_Tetra_has : Nat := 88
theorem fn_impl_Tetra_has : IsFn Try.prog 88 Try.f88 code88 := ⟨Try.func88, rfl, by kernel_rfl⟩
noncomputable def code89 : Code := (Try.f89.body).getD .skip
abbrev n_spec_l01Next : Nat := 89
theorem fn_spec_l01Next : IsFn Try.prog 89 Try.f89 code89 := ⟨Try.func89, rfl, by kernel_rfl⟩
noncomputable def code90 : Code := (Try.f90.body).getD .skip
abbrev n_impl_spots_1 : Nat := 90
theorem fn_impl_spots_1 : IsFn Try.prog 90 Try.f90 code90 := ⟨Try.func90, rfl, by kernel_rfl⟩
noncomputable def code91 : Code := (Try.f91.body).getD .skip
abbrev n_impl_Spot_plus : Nat := 91
theorem fn_impl_Spot_plus : IsFn Try.prog 91 Try.f91 code91 := ⟨Try.func91, rfl, by kernel_rfl⟩
noncomputable def code92 : Code := (Try.f92.body).getD .skip
abbrev n_impl_gcd : Nat := 92
theorem fn_impl_gcd : IsFn Try.prog 92 Try.f92 code92 := ⟨Try.func92, rfl, by kernel_rfl⟩
noncomputable def code93 : Code := (Try.f93.body).getD .skip
abbrev n_spec_l01In : Nat := 93
theorem fn_spec_l01In : IsFn Try.prog 93 Try.f93 code93 := ⟨Try.func93, rfl, by kernel_rfl⟩
noncomputable def code94 : Code := (Try.f94.body).getD .skip
abbrev n_spec_l01Gcd : Nat := 94
theorem fn_spec_l01Gcd : IsFn Try.prog 94 Try.f94 code94 := ⟨Try.func94, rfl, by kernel_rfl⟩
noncomputable def code95 : Code := (Try.f95.body).getD .skip
abbrev n_spec_l08Fold : Nat := 95
theorem fn_spec_l08Fold : IsFn Try.prog 95 Try.f95 code95 := ⟨Try.func95, rfl, by kernel_rfl⟩
noncomputable def code96 : Code := (Try.f96.body).getD .skip
abbrev n_impl_Cone_spot : Nat := 96
theorem fn_impl_Cone_spot : IsFn Try.prog 96 Try.f96 code96 := ⟨Try.func96, rfl, by kernel_rfl⟩
noncomputable def code97 : Code := (Try.f97.body).getD .skip
abbrev n_slices_SortFunc_Spot : Nat := 97
theorem fn_slices_SortFunc_Spot : IsFn Try.prog 97 Try.f97 code97 := ⟨Try.func97, rfl, by kernel_rfl⟩
noncomputable def code98 : Code := (Try.f98.body).getD .skip
abbrev n_impl_Cone_spots_1 : Nat := 98
theorem fn_impl_Cone_spots_1 : IsFn Try.prog 98 Try.f98 code98 := ⟨Try.func98, rfl, by kernel_rfl⟩
noncomputable def code99 : Code := (Try.f99.body).getD .skip
abbrev n_cmp_Or_int : Nat := 99
theorem fn_cmp_Or_int : IsFn Try.prog 99 Try.f99 code99 := ⟨Try.func99, rfl, by kernel_rfl⟩
noncomputable def code100 : Code := (Try.f100.body).getD .skip
abbrev n_cmp_Compare_int64 : Nat := 100
theorem fn_cmp_Compare_int64 : IsFn Try.prog 100 Try.f100 code100 := ⟨Try.func100, rfl, by kernel_rfl⟩
noncomputable def code101 : Code := (Try.f101.body).getD .skip
abbrev n_impl_mod : Nat := 101
theorem fn_impl_mod : IsFn Try.prog 101 Try.f101 code101 := ⟨Try.func101, rfl, by kernel_rfl⟩
noncomputable def code102 : Code := (Try.f102.body).getD .skip
abbrev n_spec_l08Before : Nat := 102
theorem fn_spec_l08Before : IsFn Try.prog 102 Try.f102 code102 := ⟨Try.func102, rfl, by kernel_rfl⟩
noncomputable def code103 : Code := (Try.f103.body).getD .skip
abbrev n_slices_IndexFunc_Spot : Nat := 103
theorem fn_slices_IndexFunc_Spot : IsFn Try.prog 103 Try.f103 code103 := ⟨Try.func103, rfl, by kernel_rfl⟩
noncomputable def code104 : Code := (Try.f104.body).getD .skip
abbrev n_slices_IndexFunc_int64 : Nat := 104
theorem fn_slices_IndexFunc_int64 : IsFn Try.prog 104 Try.f104 code104 := ⟨Try.func104, rfl, by kernel_rfl⟩
noncomputable def code105 : Code := (Try.f105.body).getD .skip
abbrev n_spec_l01Floor : Nat := 105
theorem fn_spec_l01Floor : IsFn Try.prog 105 Try.f105 code105 := ⟨Try.func105, rfl, by kernel_rfl⟩
noncomputable def code106 : Code := (Try.f106.body).getD .skip
abbrev n_slices_pdqsortCmpFunc_Spot : Nat := 106
theorem fn_slices_pdqsortCmpFunc_Spot : IsFn Try.prog 106 Try.f106 code106 := ⟨Try.func106, rfl, by kernel_rfl⟩
noncomputable def code107 : Code := (Try.f107.body).getD .skip
abbrev n_math_bits_Len : Nat := 107
theorem fn_math_bits_Len : IsFn Try.prog 107 Try.f107 code107 := ⟨Try.func107, rfl, by kernel_rfl⟩
noncomputable def code108 : Code := (Try.f108.body).getD .skip
abbrev n_cmp_isNaN_int64 : Nat := 108
theorem fn_cmp_isNaN_int64 : IsFn Try.prog 108 Try.f108 code108 := ⟨Try.func108, rfl, by kernel_rfl⟩
noncomputable def code109 : Code := (Try.f109.body).getD .skip
abbrev n_impl_floor : Nat := 109
theorem fn_impl_floor : IsFn Try.prog 109 Try.f109 code109 := ⟨Try.func109, rfl, by kernel_rfl⟩
noncomputable def code110 : Code := (Try.f110.body).getD .skip
abbrev n_slices_insertionSortCmpFunc_Spot : Nat := 110
theorem fn_slices_insertionSortCmpFunc_Spot : IsFn Try.prog 110 Try.f110 code110 := ⟨Try.func110, rfl, by kernel_rfl⟩
noncomputable def code111 : Code := (Try.f111.body).getD .skip
abbrev n_slices_heapSortCmpFunc_Spot : Nat := 111
theorem fn_slices_heapSortCmpFunc_Spot : IsFn Try.prog 111 Try.f111 code111 := ⟨Try.func111, rfl, by kernel_rfl⟩
noncomputable def code112 : Code := (Try.f112.body).getD .skip
abbrev n_slices_breakPatternsCmpFunc_Spot : Nat := 112
theorem fn_slices_breakPatternsCmpFunc_Spot : IsFn Try.prog 112 Try.f112 code112 := ⟨Try.func112, rfl, by kernel_rfl⟩
noncomputable def code113 : Code := (Try.f113.body).getD .skip
abbrev n_slices_choosePivotCmpFunc_Spot : Nat := 113
theorem fn_slices_choosePivotCmpFunc_Spot : IsFn Try.prog 113 Try.f113 code113 := ⟨Try.func113, rfl, by kernel_rfl⟩
noncomputable def code114 : Code := (Try.f114.body).getD .skip
abbrev n_slices_reverseRangeCmpFunc_Spot : Nat := 114
theorem fn_slices_reverseRangeCmpFunc_Spot : IsFn Try.prog 114 Try.f114 code114 := ⟨Try.func114, rfl, by kernel_rfl⟩
noncomputable def code115 : Code := (Try.f115.body).getD .skip
abbrev n_slices_partialInsertionSortCmpFunc_Spot : Nat := 115
theorem fn_slices_partialInsertionSortCmpFunc_Spot : IsFn Try.prog 115 Try.f115 code115 := ⟨Try.func115, rfl, by kernel_rfl⟩
noncomputable def code116 : Code := (Try.f116.body).getD .skip
abbrev n_slices_partitionEqualCmpFunc_Spot : Nat := 116
theorem fn_slices_partitionEqualCmpFunc_Spot : IsFn Try.prog 116 Try.f116 code116 := ⟨Try.func116, rfl, by kernel_rfl⟩
noncomputable def code117 : Code := (Try.f117.body).getD .skip
abbrev n_slices_partitionCmpFunc_Spot : Nat := 117
theorem fn_slices_partitionCmpFunc_Spot : IsFn Try.prog 117 Try.f117 code117 := ⟨Try.func117, rfl, by kernel_rfl⟩
noncomputable def code118 : Code := (Try.f118.body).getD .skip
abbrev n_math_bits_Len32 : Nat := 118
theorem fn_math_bits_Len32 : IsFn Try.prog 118 Try.f118 code118 := ⟨Try.func118, rfl, by kernel_rfl⟩
noncomputable def code119 : Code := (Try.f119.body).getD .skip
abbrev n_math_bits_Len64 : Nat := 119
theorem fn_math_bits_Len64 : IsFn Try.prog 119 Try.f119 code119 := ⟨Try.func119, rfl, by kernel_rfl⟩
noncomputable def code120 : Code := (Try.f120.body).getD .skip
abbrev n_slices_siftDownCmpFunc_Spot : Nat := 120
theorem fn_slices_siftDownCmpFunc_Spot : IsFn Try.prog 120 Try.f120 code120 := ⟨Try.func120, rfl, by kernel_rfl⟩
noncomputable def code121 : Code := (Try.f121.body).getD .skip
abbrev n_slices_nextPowerOfTwo : Nat := 121
theorem fn_slices_nextPowerOfTwo : IsFn Try.prog 121 Try.f121 code121 := ⟨Try.func121, rfl, by kernel_rfl⟩
noncomputable def code122 : Code := (Try.f122.body).getD .skip
abbrev n_slices_xorshift_Next : Nat := 122
theorem fn_slices_xorshift_Next : IsFn Try.prog 122 Try.f122 code122 := ⟨Try.func122, rfl, by kernel_rfl⟩
noncomputable def code123 : Code := (Try.f123.body).getD .skip
abbrev n_slices_medianAdjacentCmpFunc_Spot : Nat := 123
theorem fn_slices_medianAdjacentCmpFunc_Spot : IsFn Try.prog 123 Try.f123 code123 := ⟨Try.func123, rfl, by kernel_rfl⟩
noncomputable def code124 : Code := (Try.f124.body).getD .skip
abbrev n_slices_medianCmpFunc_Spot : Nat := 124
theorem fn_slices_medianCmpFunc_Spot : IsFn Try.prog 124 Try.f124 code124 := ⟨Try.func124, rfl, by kernel_rfl⟩
noncomputable def code125 : Code := (Try.f125.body).getD .skip
abbrev n_slices_order2CmpFunc_Spot : Nat := 125
theorem fn_slices_order2CmpFunc_Spot : IsFn Try.prog 125 Try.f125 code125 := ⟨Try.func125, rfl, by kernel_rfl⟩

end Go.Proofs.Ytndmkibdcfpddaa
