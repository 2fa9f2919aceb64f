/-
  The types of this translation, as the evaluator reads them; and what is known of each function's text.
  Conditions: none.
-/
import Derived.Test.YtndmkibdcfpddaaGreatEvUse
import Derived.Test.YtndmkibdcfpddaaGreatEvEqS
import Derived.Test.YtndmkibdcfpddaaGreatRows
import Derived.KernelRfl
set_option linter.unusedVariables false
set_option linter.unusedSimpArgs false
namespace Go.Proofs.YtndmkibdcfpddaaGreat
open Go.Ev Go.RowKit

def ti2 : TI := { t := 2, size := 1, zero := [.int .i64 0], sh := .int .i64, bytes := 8 }
def ti3 : TI := { t := 3, size := 1, zero := [.int .i64 0], sh := .int .i64, bytes := 8 }
def ti4 : TI := { t := 4, size := 1, zero := [.bool false], sh := .bool, bytes := 1 }
def ti5 : TI := { t := 5, size := 1, zero := [.int .u8 0], sh := .int .u8, bytes := 1 }
def ti9 : TI := { t := 9, size := 1, zero := [.string ⟨#[]⟩], sh := .string, bytes := 16 }
def ti21 : TI := { t := 21, size := 1, zero := [.int .i32 0], sh := .int .i32, bytes := 4 }
def ti22 : TI := { t := 22, size := 1, zero := [.slice none 0 0], sh := .slice 5 1, bytes := 24 }
def ti24 : TI := { t := 24, size := 3, zero := [.int .i64 0, .int .i64 0, .int .i64 0], sh := .arr 3 2 1 false, eqs := true, bytes := 24 }
def ti25 : TI := { t := 25, size := 3, zero := [.int .i64 0, .int .i64 0, .int .i64 0], sh := .arr 3 2 1 false, eqs := true, bytes := 24 }
def ti26 : TI := { t := 26, size := 9, zero := [.int .i64 0, .int .i64 0, .int .i64 0, .int .i64 0, .int .i64 0, .int .i64 0, .int .i64 0, .int .i64 0, .int .i64 0], sh := .arr 3 25 3 true, bytes := 72 }
def ti27 : TI := { t := 27, size := 9, zero := [.int .i64 0, .int .i64 0, .int .i64 0, .int .i64 0, .int .i64 0, .int .i64 0, .int .i64 0, .int .i64 0, .int .i64 0], sh := .arr 3 25 3 true, bytes := 72 }
def ti29 : TI := { t := 29, size := 1, zero := [.slice none 0 0], sh := .slice 25 3, bytes := 24 }
def ti36 : TI := { t := 36, size := 1, zero := [.slice none 0 0], sh := .slice 2 1, bytes := 24 }
def ti54 : TI := { t := 54, size := 1, zero := [.pointer none], sh := .cell, bytes := 8 }
def ti81 : TI := { t := 81, size := 1, zero := [.int .u64 0], sh := .int .u64, bytes := 8 }
def ti82 : TI := { t := 82, size := 3, zero := [.slice none 0 0, .int .i64 0, .int .u64 0], sh := .str [(0, 1, false), (1, 1, false), (2, 1, false)], bytes := 40 }
def ti83 : TI := { t := 83, size := 3, zero := [.slice none 0 0, .int .i64 0, .int .u64 0], sh := .str [(0, 1, false), (1, 1, false), (2, 1, false)], bytes := 40 }
def ti88 : TI := { t := 88, size := 1, zero := [.map none], sh := .cell, bytes := 8 }
def ti95 : TI := { t := 95, size := 1, zero := [.int .u64 0], sh := .int .u64, bytes := 8 }
def ti98 : TI := { t := 98, size := 1, zero := [.slice none 0 0], sh := .slice 3 1, bytes := 24 }
def ti100 : TI := { t := 100, size := 1, zero := [.int .i64 0], sh := .int .i64, bytes := 8 }
def ti108 : TI := { t := 108, size := 1, zero := [.int .u32 0], sh := .int .u32, bytes := 4 }
def ti110 : TI := { t := 110, size := 1, zero := [.int .u64 0], sh := .int .u64, bytes := 8 }
def ti114 : TI := { t := 114, size := 1, zero := [.pointer none], sh := .cell, bytes := 8 }
def ti116 : TI := { t := 116, size := 1, zero := [.pointer none], sh := .cell, bytes := 8 }
def ti120 : TI := { t := 120, size := 4, zero := [.pointer none, .pointer none, .pointer none, .string ⟨#[]⟩], sh := .str [(0, 1, false), (1, 1, false), (2, 1, false), (3, 1, false)], bytes := 40 }
def ti122 : TI := { t := 122, size := 0, zero := [], sh := .arr 0 16 1 false, bytes := 0 }
def ti123 : TI := { t := 123, size := 0, zero := [], sh := .str [(0, 0, true)], bytes := 0 }
def ti129 : TI := { t := 129, size := 1, zero := [.pointer none], sh := .cell, bytes := 8 }
def ti132 : TI := { t := 132, size := 11, zero := [.int .u64 0, .int .u64 0, .int .u32 0, .int .u8 0, .int .u8 0, .int .u8 0, .int .u8 0, .nilFunc, .pointer none, .int .i32 0, .int .i32 0], sh := .str [(0, 1, false), (1, 1, false), (2, 1, false), (3, 1, false), (4, 1, false), (5, 1, false), (6, 1, false), (7, 1, false), (8, 1, false), (9, 1, false), (10, 1, false)], bytes := 48 }

def tbl : Tbl := [ti2, ti3, ti4, ti5, ti9, ti21, ti22, ti24, ti25, ti26, ti27, ti29, ti36, ti54, ti81, ti82, ti83, ti88, ti95, ti98, ti100, ti108, ti110, ti114, ti116, ti120, ti122, ti123, ti129, ti132]

theorem ti2_ok : ti2.Ok Tryz.prog := ⟨by kernel_rfl, (show Tryz.prog.underlying 2 = some (.int .i64) by kernel_rfl), rfl, fun h => by cases h⟩
theorem ti3_ok : ti3.Ok Tryz.prog := ⟨by kernel_rfl, (show Tryz.prog.underlying 3 = some (.int .i64) by kernel_rfl), rfl, fun h => by cases h⟩
theorem ti4_ok : ti4.Ok Tryz.prog := ⟨by kernel_rfl, (show Tryz.prog.underlying 4 = some .bool by kernel_rfl), rfl, fun h => by cases h⟩
theorem ti5_ok : ti5.Ok Tryz.prog := ⟨by kernel_rfl, (show Tryz.prog.underlying 5 = some (.int .u8) by kernel_rfl), rfl, fun h => by cases h⟩
theorem ti9_ok : ti9.Ok Tryz.prog := ⟨by kernel_rfl, (show Tryz.prog.underlying 9 = some .string by kernel_rfl), rfl, fun h => by cases h⟩
theorem ti21_ok : ti21.Ok Tryz.prog := ⟨by kernel_rfl, (show Tryz.prog.underlying 21 = some (.int .i32) by kernel_rfl), rfl, fun h => by cases h⟩
theorem ti22_ok : ti22.Ok Tryz.prog := ⟨by kernel_rfl, ⟨by kernel_rfl, by kernel_rfl⟩, rfl, fun h => by cases h⟩
theorem ti24_ok : ti24.Ok Tryz.prog := ⟨by kernel_rfl, ⟨by kernel_rfl, by kernel_rfl, by kernel_rfl⟩, rfl, fun _ => eq_arr3 (e := 2) (by kernel_rfl) (by kernel_rfl) (by kernel_rfl) (by kernel_rfl)⟩
theorem ti25_ok : ti25.Ok Tryz.prog := ⟨by kernel_rfl, ⟨by kernel_rfl, by kernel_rfl, by kernel_rfl⟩, rfl, fun _ => eq_arr3 (e := 2) (by kernel_rfl) (by kernel_rfl) (by kernel_rfl) (by kernel_rfl)⟩
theorem ti26_ok : ti26.Ok Tryz.prog := ⟨by kernel_rfl, ⟨by kernel_rfl, by kernel_rfl, by kernel_rfl⟩, rfl, fun h => by cases h⟩
theorem ti27_ok : ti27.Ok Tryz.prog := ⟨by kernel_rfl, ⟨by kernel_rfl, by kernel_rfl, by kernel_rfl⟩, rfl, fun h => by cases h⟩
theorem ti29_ok : ti29.Ok Tryz.prog := ⟨by kernel_rfl, ⟨by kernel_rfl, by kernel_rfl⟩, rfl, fun h => by cases h⟩
theorem ti36_ok : ti36.Ok Tryz.prog := ⟨by kernel_rfl, ⟨by kernel_rfl, by kernel_rfl⟩, rfl, fun h => by cases h⟩
theorem ti54_ok : ti54.Ok Tryz.prog := ⟨by kernel_rfl, (show (Tryz.prog.underlying 54).map aggD = some false by kernel_rfl), rfl, fun h => by cases h⟩
theorem ti81_ok : ti81.Ok Tryz.prog := ⟨by kernel_rfl, (show Tryz.prog.underlying 81 = some (.int .u64) by kernel_rfl), rfl, fun h => by cases h⟩
theorem ti82_ok : ti82.Ok Tryz.prog := ⟨by kernel_rfl, ⟨Tryz.prog.fieldsOf 82, by kernel_rfl, by kernel_rfl⟩, rfl, fun h => by cases h⟩
theorem ti83_ok : ti83.Ok Tryz.prog := ⟨by kernel_rfl, ⟨Tryz.prog.fieldsOf 83, by kernel_rfl, by kernel_rfl⟩, rfl, fun h => by cases h⟩
theorem ti88_ok : ti88.Ok Tryz.prog := ⟨by kernel_rfl, (show (Tryz.prog.underlying 88).map aggD = some false by kernel_rfl), rfl, fun h => by cases h⟩
theorem ti95_ok : ti95.Ok Tryz.prog := ⟨by kernel_rfl, (show Tryz.prog.underlying 95 = some (.int .u64) by kernel_rfl), rfl, fun h => by cases h⟩
theorem ti98_ok : ti98.Ok Tryz.prog := ⟨by kernel_rfl, ⟨by kernel_rfl, by kernel_rfl⟩, rfl, fun h => by cases h⟩
theorem ti100_ok : ti100.Ok Tryz.prog := ⟨by kernel_rfl, (show Tryz.prog.underlying 100 = some (.int .i64) by kernel_rfl), rfl, fun h => by cases h⟩
theorem ti108_ok : ti108.Ok Tryz.prog := ⟨by kernel_rfl, (show Tryz.prog.underlying 108 = some (.int .u32) by kernel_rfl), rfl, fun h => by cases h⟩
theorem ti110_ok : ti110.Ok Tryz.prog := ⟨by kernel_rfl, (show Tryz.prog.underlying 110 = some (.int .u64) by kernel_rfl), rfl, fun h => by cases h⟩
theorem ti114_ok : ti114.Ok Tryz.prog := ⟨by kernel_rfl, (show (Tryz.prog.underlying 114).map aggD = some false by kernel_rfl), rfl, fun h => by cases h⟩
theorem ti116_ok : ti116.Ok Tryz.prog := ⟨by kernel_rfl, (show (Tryz.prog.underlying 116).map aggD = some false by kernel_rfl), rfl, fun h => by cases h⟩
theorem ti120_ok : ti120.Ok Tryz.prog := ⟨by kernel_rfl, ⟨Tryz.prog.fieldsOf 120, by kernel_rfl, by kernel_rfl⟩, rfl, fun h => by cases h⟩
theorem ti122_ok : ti122.Ok Tryz.prog := ⟨by kernel_rfl, ⟨by kernel_rfl, by kernel_rfl, by kernel_rfl⟩, rfl, fun h => by cases h⟩
theorem ti123_ok : ti123.Ok Tryz.prog := ⟨by kernel_rfl, ⟨Tryz.prog.fieldsOf 123, by kernel_rfl, by kernel_rfl⟩, rfl, fun h => by cases h⟩
theorem ti129_ok : ti129.Ok Tryz.prog := ⟨by kernel_rfl, (show (Tryz.prog.underlying 129).map aggD = some false by kernel_rfl), rfl, fun h => by cases h⟩
theorem ti132_ok : ti132.Ok Tryz.prog := ⟨by kernel_rfl, ⟨Tryz.prog.fieldsOf 132, by kernel_rfl, by kernel_rfl⟩, rfl, fun h => by cases h⟩
abbrev t_L_uint8 : Nat := 22
abbrev t_impl_Spot : Nat := 25
abbrev t_impl_Cone : Nat := 27
abbrev t_L_impl_Spot : Nat := 29
abbrev t_L_int64 : Nat := 36
abbrev t_spec_l01Source : Nat := 83
abbrev t_L_int : Nat := 98
abbrev t_slices_sortedHint : Nat := 100
abbrev t_slices_xorshift : Nat := 110

theorem tbl_ok : tbl.Ok Tryz.prog := by
  intro i hi
  simp only [tbl, List.mem_cons, List.not_mem_nil, or_false] at hi
  rcases hi with rfl | rfl | rfl | rfl | rfl | rfl | rfl | rfl | rfl | rfl | rfl | rfl | rfl | rfl | rfl | rfl | rfl | rfl | rfl | rfl | rfl | rfl | rfl | rfl | rfl | rfl | rfl | rfl | rfl | rfl
  all_goals first
    | exact ti2_ok
    | exact ti3_ok
    | exact ti4_ok
    | exact ti5_ok
    | exact ti9_ok
    | exact ti21_ok
    | exact ti22_ok
    | exact ti24_ok
    | exact ti25_ok
    | exact ti26_ok
    | exact ti27_ok
    | exact ti29_ok
    | exact ti36_ok
    | exact ti54_ok
    | exact ti81_ok
    | exact ti82_ok
    | exact ti83_ok
    | exact ti88_ok
    | exact ti95_ok
    | exact ti98_ok
    | exact ti100_ok
    | exact ti108_ok
    | exact ti110_ok
    | exact ti114_ok
    | exact ti116_ok
    | exact ti120_ok
    | exact ti122_ok
    | exact ti123_ok
    | exact ti129_ok
    | exact ti132_ok

theorem good : EvGood Tryz.prog tbl := ⟨tbl_ok, by kernel_rfl⟩

noncomputable def code3 : Code := (Tryz.f3.body).getD .skip
abbrev n_laws_FnCones : Nat := 3
theorem fn_laws_FnCones : IsFn Tryz.prog 3 Tryz.f3 code3 := ⟨Tryz.func3, rfl, by kernel_rfl⟩
noncomputable def code4 : Code := (Tryz.f4.body).getD .skip
abbrev n_laws_big : Nat := 4
theorem fn_laws_big : IsFn Tryz.prog 4 Tryz.f4 code4 := ⟨Tryz.func4, rfl, by kernel_rfl⟩
noncomputable def code5 : Code := (Tryz.f5.body).getD .skip
abbrev n_spec_DrawBoxOf : Nat := 5
theorem fn_spec_DrawBoxOf : IsFn Tryz.prog 5 Tryz.f5 code5 := ⟨Tryz.func5, rfl, by kernel_rfl⟩
noncomputable def code6 : Code := (Tryz.f6.body).getD .skip
abbrev n_impl_BoxOf : Nat := 6
theorem fn_impl_BoxOf : IsFn Tryz.prog 6 Tryz.f6 code6 := ⟨Tryz.func6, rfl, by kernel_rfl⟩
noncomputable def code7 : Code := (Tryz.f7.body).getD .skip
abbrev n_spec_BoxOf : Nat := 7
theorem fn_spec_BoxOf : IsFn Tryz.prog 7 Tryz.f7 code7 := ⟨Tryz.func7, rfl, by kernel_rfl⟩
noncomputable def code8 : Code := (Tryz.f8.body).getD .skip
abbrev n_laws_spots9 : Nat := 8
theorem fn_laws_spots9 : IsFn Tryz.prog 8 Tryz.f8 code8 := ⟨Tryz.func8, rfl, by kernel_rfl⟩
noncomputable def code9 : Code := (Tryz.f9.body).getD .skip
abbrev n_impl_IsCone : Nat := 9
theorem fn_impl_IsCone : IsFn Tryz.prog 9 Tryz.f9 code9 := ⟨Tryz.func9, rfl, by kernel_rfl⟩
noncomputable def code10 : Code := (Tryz.f10.body).getD .skip
abbrev n_spec_IsCone : Nat := 10
theorem fn_spec_IsCone : IsFn Tryz.prog 10 Tryz.f10 code10 := ⟨Tryz.func10, rfl, by kernel_rfl⟩
noncomputable def code11 : Code := (Tryz.f11.body).getD .skip
abbrev n_spec_DrawHilbertBasis : Nat := 11
theorem fn_spec_DrawHilbertBasis : IsFn Tryz.prog 11 Tryz.f11 code11 := ⟨Tryz.func11, rfl, by kernel_rfl⟩
noncomputable def code12 : Code := (Tryz.f12.body).getD .skip
abbrev n_impl_HilbertBasis : Nat := 12
theorem fn_impl_HilbertBasis : IsFn Tryz.prog 12 Tryz.f12 code12 := ⟨Tryz.func12, rfl, by kernel_rfl⟩
noncomputable def code13 : Code := (Tryz.f13.body).getD .skip
abbrev n_spec_HilbertBasis : Nat := 13
theorem fn_spec_HilbertBasis : IsFn Tryz.prog 13 Tryz.f13 code13 := ⟨Tryz.func13, rfl, by kernel_rfl⟩
noncomputable def code14 : Code := (Tryz.f14.body).getD .skip
abbrev n_spec_DrawCoordinatesIn : Nat := 14
theorem fn_spec_DrawCoordinatesIn : IsFn Tryz.prog 14 Tryz.f14 code14 := ⟨Tryz.func14, rfl, by kernel_rfl⟩
noncomputable def code15 : Code := (Tryz.f15.body).getD .skip
abbrev n_impl_CoordinatesIn : Nat := 15
theorem fn_impl_CoordinatesIn : IsFn Tryz.prog 15 Tryz.f15 code15 := ⟨Tryz.func15, rfl, by kernel_rfl⟩
noncomputable def code16 : Code := (Tryz.f16.body).getD .skip
abbrev n_spec_CoordinatesIn : Nat := 16
theorem fn_spec_CoordinatesIn : IsFn Tryz.prog 16 Tryz.f16 code16 := ⟨Tryz.func16, rfl, by kernel_rfl⟩
noncomputable def code17 : Code := (Tryz.f17.body).getD .skip
abbrev n_laws_likeInts : Nat := 17
theorem fn_laws_likeInts : IsFn Tryz.prog 17 Tryz.f17 code17 := ⟨Tryz.func17, rfl, by kernel_rfl⟩
noncomputable def code18 : Code := (Tryz.f18.body).getD .skip
abbrev n_impl_IsInCone : Nat := 18
theorem fn_impl_IsInCone : IsFn Tryz.prog 18 Tryz.f18 code18 := ⟨Tryz.func18, rfl, by kernel_rfl⟩
noncomputable def code19 : Code := (Tryz.f19.body).getD .skip
abbrev n_spec_IsInCone : Nat := 19
theorem fn_spec_IsInCone : IsFn Tryz.prog 19 Tryz.f19 code19 := ⟨Tryz.func19, rfl, by kernel_rfl⟩
noncomputable def code20 : Code := (Tryz.f20.body).getD .skip
abbrev n_spec_DrawIsRegularCone : Nat := 20
theorem fn_spec_DrawIsRegularCone : IsFn Tryz.prog 20 Tryz.f20 code20 := ⟨Tryz.func20, rfl, by kernel_rfl⟩
noncomputable def code21 : Code := (Tryz.f21.body).getD .skip
abbrev n_impl_IsRegularCone : Nat := 21
theorem fn_impl_IsRegularCone : IsFn Tryz.prog 21 Tryz.f21 code21 := ⟨Tryz.func21, rfl, by kernel_rfl⟩
noncomputable def code22 : Code := (Tryz.f22.body).getD .skip
abbrev n_spec_IsRegularCone : Nat := 22
theorem fn_spec_IsRegularCone : IsFn Tryz.prog 22 Tryz.f22 code22 := ⟨Tryz.func22, rfl, by kernel_rfl⟩
noncomputable def code23 : Code := (Tryz.f23.body).getD .skip
abbrev n_spec_DrawDeterminantOfSpots : Nat := 23
theorem fn_spec_DrawDeterminantOfSpots : IsFn Tryz.prog 23 Tryz.f23 code23 := ⟨Tryz.func23, rfl, by kernel_rfl⟩
noncomputable def code24 : Code := (Tryz.f24.body).getD .skip
abbrev n_impl_DeterminantOfSpots : Nat := 24
theorem fn_impl_DeterminantOfSpots : IsFn Tryz.prog 24 Tryz.f24 code24 := ⟨Tryz.func24, rfl, by kernel_rfl⟩
noncomputable def code25 : Code := (Tryz.f25.body).getD .skip
abbrev n_spec_DeterminantOfSpots : Nat := 25
theorem fn_spec_DeterminantOfSpots : IsFn Tryz.prog 25 Tryz.f25 code25 := ⟨Tryz.func25, rfl, by kernel_rfl⟩
noncomputable def code26 : Code := (Tryz.f26.body).getD .skip
abbrev n_impl_IsSpot : Nat := 26
theorem fn_impl_IsSpot : IsFn Tryz.prog 26 Tryz.f26 code26 := ⟨Tryz.func26, rfl, by kernel_rfl⟩
noncomputable def code27 : Code := (Tryz.f27.body).getD .skip
abbrev n_spec_IsSpot : Nat := 27
theorem fn_spec_IsSpot : IsFn Tryz.prog 27 Tryz.f27 code27 := ⟨Tryz.func27, rfl, by kernel_rfl⟩
noncomputable def code28 : Code := (Tryz.f28.body).getD .skip
abbrev n_spec_DrawCrossOf : Nat := 28
theorem fn_spec_DrawCrossOf : IsFn Tryz.prog 28 Tryz.f28 code28 := ⟨Tryz.func28, rfl, by kernel_rfl⟩
noncomputable def code29 : Code := (Tryz.f29.body).getD .skip
abbrev n_impl_CrossOf : Nat := 29
theorem fn_impl_CrossOf : IsFn Tryz.prog 29 Tryz.f29 code29 := ⟨Tryz.func29, rfl, by kernel_rfl⟩
noncomputable def code30 : Code := (Tryz.f30.body).getD .skip
abbrev n_spec_CrossOf : Nat := 30
theorem fn_spec_CrossOf : IsFn Tryz.prog 30 Tryz.f30 code30 := ⟨Tryz.func30, rfl, by kernel_rfl⟩
noncomputable def code31 : Code := (Tryz.f31.body).getD .skip
abbrev n_spec_DrawLengthOfSpot : Nat := 31
theorem fn_spec_DrawLengthOfSpot : IsFn Tryz.prog 31 Tryz.f31 code31 := ⟨Tryz.func31, rfl, by kernel_rfl⟩
noncomputable def code32 : Code := (Tryz.f32.body).getD .skip
abbrev n_impl_LengthOfSpot : Nat := 32
theorem fn_impl_LengthOfSpot : IsFn Tryz.prog 32 Tryz.f32 code32 := ⟨Tryz.func32, rfl, by kernel_rfl⟩
noncomputable def code33 : Code := (Tryz.f33.body).getD .skip
abbrev n_spec_LengthOfSpot : Nat := 33
theorem fn_spec_LengthOfSpot : IsFn Tryz.prog 33 Tryz.f33 code33 := ⟨Tryz.func33, rfl, by kernel_rfl⟩
noncomputable def code34 : Code := (Tryz.f34.body).getD .skip
abbrev n_spec_l08Draw : Nat := 34
theorem fn_spec_l08Draw : IsFn Tryz.prog 34 Tryz.f34 code34 := ⟨Tryz.func34, rfl, by kernel_rfl⟩
noncomputable def code35 : Code := (Tryz.f35.body).getD .skip
abbrev n_spec_l01From : Nat := 35
theorem fn_spec_l01From : IsFn Tryz.prog 35 Tryz.f35 code35 := ⟨Tryz.func35, rfl, by kernel_rfl⟩
noncomputable def code36 : Code := (Tryz.f36.body).getD .skip
abbrev n_impl_boxFault : Nat := 36
theorem fn_impl_boxFault : IsFn Tryz.prog 36 Tryz.f36 code36 := ⟨Tryz.func36, rfl, by kernel_rfl⟩
noncomputable def code37 : Code := (Tryz.f37.body).getD .skip
abbrev n_impl_Cone_spots : Nat := 37
theorem fn_impl_Cone_spots : IsFn Tryz.prog 37 Tryz.f37 code37 := ⟨Tryz.func37, rfl, by kernel_rfl⟩
noncomputable def code38 : Code := (Tryz.f38.body).getD .skip
abbrev n_impl_Cone_box : Nat := 38
theorem fn_impl_Cone_box : IsFn Tryz.prog 38 Tryz.f38 code38 := ⟨Tryz.func38, rfl, by kernel_rfl⟩
noncomputable def code39 : Code := (Tryz.f39.body).getD .skip
abbrev n_spec_l08Is : Nat := 39
theorem fn_spec_l08Is : IsFn Tryz.prog 39 Tryz.f39 code39 := ⟨Tryz.func39, rfl, by kernel_rfl⟩
noncomputable def code40 : Code := (Tryz.f40.body).getD .skip
abbrev n_spec_l08Size : Nat := 40
theorem fn_spec_l08Size : IsFn Tryz.prog 40 Tryz.f40 code40 := ⟨Tryz.func40, rfl, by kernel_rfl⟩
noncomputable def code41 : Code := (Tryz.f41.body).getD .skip
abbrev n_spec_l08Box : Nat := 41
theorem fn_spec_l08Box : IsFn Tryz.prog 41 Tryz.f41 code41 := ⟨Tryz.func41, rfl, by kernel_rfl⟩
noncomputable def code42 : Code := (Tryz.f42.body).getD .skip
abbrev n_impl_spots : Nat := 42
theorem fn_impl_spots : IsFn Tryz.prog 42 Tryz.f42 code42 := ⟨Tryz.func42, rfl, by kernel_rfl⟩
noncomputable def code43 : Code := (Tryz.f43.body).getD .skip
abbrev n_impl_Cone_det : Nat := 43
theorem fn_impl_Cone_det : IsFn Tryz.prog 43 Tryz.f43 code43 := ⟨Tryz.func43, rfl, by kernel_rfl⟩
noncomputable def code44 : Code := (Tryz.f44.body).getD .skip
abbrev n_impl_Spot_length : Nat := 44
theorem fn_impl_Spot_length : IsFn Tryz.prog 44 Tryz.f44 code44 := ⟨Tryz.func44, rfl, by kernel_rfl⟩
noncomputable def code45 : Code := (Tryz.f45.body).getD .skip
abbrev n_impl_size : Nat := 45
theorem fn_impl_size : IsFn Tryz.prog 45 Tryz.f45 code45 := ⟨Tryz.func45, rfl, by kernel_rfl⟩
noncomputable def code46 : Code := (Tryz.f46.body).getD .skip
abbrev n_slices_DeleteFunc_Spot : Nat := 46
theorem fn_slices_DeleteFunc_Spot : IsFn Tryz.prog 46 Tryz.f46 code46 := ⟨Tryz.func46, rfl, by kernel_rfl⟩
noncomputable def code47 : Code := (Tryz.f47.body).getD .skip
abbrev n_slices_Clone_Spot : Nat := 47
theorem fn_slices_Clone_Spot : IsFn Tryz.prog 47 Tryz.f47 code47 := ⟨Tryz.func47, rfl, by kernel_rfl⟩
noncomputable def code48 : Code := (Tryz.f48.body).getD .skip
abbrev n_impl_HilbertBasis_1 : Nat := 48
theorem fn_impl_HilbertBasis_1 : IsFn Tryz.prog 48 Tryz.f48 code48 := ⟨Tryz.func48, rfl, by kernel_rfl⟩
noncomputable def code49 : Code := (Tryz.f49.body).getD .skip
abbrev n_slices_ContainsFunc_Spot : Nat := 49
theorem fn_slices_ContainsFunc_Spot : IsFn Tryz.prog 49 Tryz.f49 code49 := ⟨Tryz.func49, rfl, by kernel_rfl⟩
noncomputable def code50 : Code := (Tryz.f50.body).getD .skip
abbrev n_impl_HilbertBasis_1_1 : Nat := 50
theorem fn_impl_HilbertBasis_1_1 : IsFn Tryz.prog 50 Tryz.f50 code50 := ⟨Tryz.func50, rfl, by kernel_rfl⟩
noncomputable def code51 : Code := (Tryz.f51.body).getD .skip
abbrev n_impl_Spot_less : Nat := 51
theorem fn_impl_Spot_less : IsFn Tryz.prog 51 Tryz.f51 code51 := ⟨Tryz.func51, rfl, by kernel_rfl⟩
noncomputable def code52 : Code := (Tryz.f52.body).getD .skip
abbrev n_impl_Spot_notNegative : Nat := 52
theorem fn_impl_Spot_notNegative : IsFn Tryz.prog 52 Tryz.f52 code52 := ⟨Tryz.func52, rfl, by kernel_rfl⟩
noncomputable def code53 : Code := (Tryz.f53.body).getD .skip
abbrev n_spec_l08Length : Nat := 53
theorem fn_spec_l08Length : IsFn Tryz.prog 53 Tryz.f53 code53 := ⟨Tryz.func53, rfl, by kernel_rfl⟩
noncomputable def code54 : Code := (Tryz.f54.body).getD .skip
abbrev n_spec_l08Put : Nat := 54
theorem fn_spec_l08Put : IsFn Tryz.prog 54 Tryz.f54 code54 := ⟨Tryz.func54, rfl, by kernel_rfl⟩
noncomputable def code55 : Code := (Tryz.f55.body).getD .skip
abbrev n_spec_l08Plus : Nat := 55
theorem fn_spec_l08Plus : IsFn Tryz.prog 55 Tryz.f55 code55 := ⟨Tryz.func55, rfl, by kernel_rfl⟩
noncomputable def code56 : Code := (Tryz.f56.body).getD .skip
abbrev n_spec_l08Inside : Nat := 56
theorem fn_spec_l08Inside : IsFn Tryz.prog 56 Tryz.f56 code56 := ⟨Tryz.func56, rfl, by kernel_rfl⟩
noncomputable def code57 : Code := (Tryz.f57.body).getD .skip
abbrev n_spec_l08At : Nat := 57
theorem fn_spec_l08At : IsFn Tryz.prog 57 Tryz.f57 code57 := ⟨Tryz.func57, rfl, by kernel_rfl⟩
noncomputable def code58 : Code := (Tryz.f58.body).getD .skip
abbrev n_impl_Cone_coordinates : Nat := 58
theorem fn_impl_Cone_coordinates : IsFn Tryz.prog 58 Tryz.f58 code58 := ⟨Tryz.func58, rfl, by kernel_rfl⟩
noncomputable def code59 : Code := (Tryz.f59.body).getD .skip
abbrev n_spec_l08Code : Nat := 59
theorem fn_spec_l08Code : IsFn Tryz.prog 59 Tryz.f59 code59 := ⟨Tryz.func59, rfl, by kernel_rfl⟩
noncomputable def code60 : Code := (Tryz.f60.body).getD .skip
abbrev n_spec_l08Coordinates : Nat := 60
theorem fn_spec_l08Coordinates : IsFn Tryz.prog 60 Tryz.f60 code60 := ⟨Tryz.func60, rfl, by kernel_rfl⟩
noncomputable def code61 : Code := (Tryz.f61.body).getD .skip
abbrev n_spec_l08DrawSpot : Nat := 61
theorem fn_spec_l08DrawSpot : IsFn Tryz.prog 61 Tryz.f61 code61 := ⟨Tryz.func61, rfl, by kernel_rfl⟩
noncomputable def code62 : Code := (Tryz.f62.body).getD .skip
abbrev n_impl_volume : Nat := 62
theorem fn_impl_volume : IsFn Tryz.prog 62 Tryz.f62 code62 := ⟨Tryz.func62, rfl, by kernel_rfl⟩
noncomputable def code63 : Code := (Tryz.f63.body).getD .skip
abbrev n_spec_l08Spot : Nat := 63
theorem fn_spec_l08Spot : IsFn Tryz.prog 63 Tryz.f63 code63 := ⟨Tryz.func63, rfl, by kernel_rfl⟩
noncomputable def code64 : Code := (Tryz.f64.body).getD .skip
abbrev n_spec_l08Det : Nat := 64
theorem fn_spec_l08Det : IsFn Tryz.prog 64 Tryz.f64 code64 := ⟨Tryz.func64, rfl, by kernel_rfl⟩
noncomputable def code65 : Code := (Tryz.f65.body).getD .skip
abbrev n_slices_ContainsFunc_int64 : Nat := 65
theorem fn_slices_ContainsFunc_int64 : IsFn Tryz.prog 65 Tryz.f65 code65 := ⟨Tryz.func65, rfl, by kernel_rfl⟩
noncomputable def code66 : Code := (Tryz.f66.body).getD .skip
abbrev n_impl_IsSpot_1 : Nat := 66
theorem fn_impl_IsSpot_1 : IsFn Tryz.prog 66 Tryz.f66 code66 := ⟨Tryz.func66, rfl, by kernel_rfl⟩
noncomputable def code67 : Code := (Tryz.f67.body).getD .skip
abbrev n_impl_in : Nat := 67
theorem fn_impl_in : IsFn Tryz.prog 67 Tryz.f67 code67 := ⟨Tryz.func67, rfl, by kernel_rfl⟩
noncomputable def code68 : Code := (Tryz.f68.body).getD .skip
abbrev n_impl_cross : Nat := 68
theorem fn_impl_cross : IsFn Tryz.prog 68 Tryz.f68 code68 := ⟨Tryz.func68, rfl, by kernel_rfl⟩
noncomputable def code69 : Code := (Tryz.f69.body).getD .skip
abbrev n_spec_l08Cross : Nat := 69
theorem fn_spec_l08Cross : IsFn Tryz.prog 69 Tryz.f69 code69 := ⟨Tryz.func69, rfl, by kernel_rfl⟩
noncomputable def code70 : Code := (Tryz.f70.body).getD .skip
abbrev n_spec_l01Pick : Nat := 70
theorem fn_spec_l01Pick : IsFn Tryz.prog 70 Tryz.f70 code70 := ⟨Tryz.func70, rfl, by kernel_rfl⟩
noncomputable def code71 : Code := (Tryz.f71.body).getD .skip
abbrev n_spec_l01Next : Nat := 71
theorem fn_spec_l01Next : IsFn Tryz.prog 71 Tryz.f71 code71 := ⟨Tryz.func71, rfl, by kernel_rfl⟩
noncomputable def code72 : Code := (Tryz.f72.body).getD .skip
abbrev n_impl_Cone_spot : Nat := 72
theorem fn_impl_Cone_spot : IsFn Tryz.prog 72 Tryz.f72 code72 := ⟨Tryz.func72, rfl, by kernel_rfl⟩
noncomputable def code73 : Code := (Tryz.f73.body).getD .skip
abbrev n_slices_SortFunc_Spot : Nat := 73
theorem fn_slices_SortFunc_Spot : IsFn Tryz.prog 73 Tryz.f73 code73 := ⟨Tryz.func73, rfl, by kernel_rfl⟩
noncomputable def code74 : Code := (Tryz.f74.body).getD .skip
abbrev n_impl_Cone_spots_1 : Nat := 74
theorem fn_impl_Cone_spots_1 : IsFn Tryz.prog 74 Tryz.f74 code74 := ⟨Tryz.func74, rfl, by kernel_rfl⟩
noncomputable def code75 : Code := (Tryz.f75.body).getD .skip
abbrev n_cmp_Or_int : Nat := 75
theorem fn_cmp_Or_int : IsFn Tryz.prog 75 Tryz.f75 code75 := ⟨Tryz.func75, rfl, by kernel_rfl⟩
noncomputable def code76 : Code := (Tryz.f76.body).getD .skip
abbrev n_cmp_Compare_int64 : Nat := 76
theorem fn_cmp_Compare_int64 : IsFn Tryz.prog 76 Tryz.f76 code76 := ⟨Tryz.func76, rfl, by kernel_rfl⟩
noncomputable def code77 : Code := (Tryz.f77.body).getD .skip
abbrev n_impl_Spot_plus : Nat := 77
theorem fn_impl_Spot_plus : IsFn Tryz.prog 77 Tryz.f77 code77 := ⟨Tryz.func77, rfl, by kernel_rfl⟩
noncomputable def code78 : Code := (Tryz.f78.body).getD .skip
abbrev n_impl_mod : Nat := 78
theorem fn_impl_mod : IsFn Tryz.prog 78 Tryz.f78 code78 := ⟨Tryz.func78, rfl, by kernel_rfl⟩
noncomputable def code79 : Code := (Tryz.f79.body).getD .skip
abbrev n_spec_l08Fold : Nat := 79
theorem fn_spec_l08Fold : IsFn Tryz.prog 79 Tryz.f79 code79 := ⟨Tryz.func79, rfl, by kernel_rfl⟩
noncomputable def code80 : Code := (Tryz.f80.body).getD .skip
abbrev n_impl_spots_1 : Nat := 80
theorem fn_impl_spots_1 : IsFn Tryz.prog 80 Tryz.f80 code80 := ⟨Tryz.func80, rfl, by kernel_rfl⟩
noncomputable def code81 : Code := (Tryz.f81.body).getD .skip
abbrev n_impl_gcd : Nat := 81
theorem fn_impl_gcd : IsFn Tryz.prog 81 Tryz.f81 code81 := ⟨Tryz.func81, rfl, by kernel_rfl⟩
noncomputable def code82 : Code := (Tryz.f82.body).getD .skip
abbrev n_slices_IndexFunc_Spot : Nat := 82
theorem fn_slices_IndexFunc_Spot : IsFn Tryz.prog 82 Tryz.f82 code82 := ⟨Tryz.func82, rfl, by kernel_rfl⟩
noncomputable def code83 : Code := (Tryz.f83.body).getD .skip
abbrev n_spec_l01Gcd : Nat := 83
theorem fn_spec_l01Gcd : IsFn Tryz.prog 83 Tryz.f83 code83 := ⟨Tryz.func83, rfl, by kernel_rfl⟩
noncomputable def code84 : Code := (Tryz.f84.body).getD .skip
abbrev n_spec_l08Before : Nat := 84
theorem fn_spec_l08Before : IsFn Tryz.prog 84 Tryz.f84 code84 := ⟨Tryz.func84, rfl, by kernel_rfl⟩
noncomputable def code85 : Code := (Tryz.f85.body).getD .skip
abbrev n_impl_sign : Nat := 85
theorem fn_impl_sign : IsFn Tryz.prog 85 Tryz.f85 code85 := ⟨Tryz.func85, rfl, by kernel_rfl⟩
noncomputable def code86 : Code := (Tryz.f86.body).getD .skip
abbrev n_spec_l01In : Nat := 86
theorem fn_spec_l01In : IsFn Tryz.prog 86 Tryz.f86 code86 := ⟨Tryz.func86, rfl, by kernel_rfl⟩
noncomputable def code87 : Code := (Tryz.f87.body).getD .skip
abbrev n_spec_l08Dot : Nat := 87
theorem fn_spec_l08Dot : IsFn Tryz.prog 87 Tryz.f87 code87 := ⟨Tryz.func87, rfl, by kernel_rfl⟩
noncomputable def code88 : Code := (Tryz.f88.body).getD .skip
abbrev n_slices_IndexFunc_int64 : Nat := 88
theorem fn_slices_IndexFunc_int64 : IsFn Tryz.prog 88 Tryz.f88 code88 := ⟨Tryz.func88, rfl, by kernel_rfl⟩
noncomputable def code89 : Code := (Tryz.f89.body).getD .skip
abbrev n_slices_pdqsortCmpFunc_Spot : Nat := 89
theorem fn_slices_pdqsortCmpFunc_Spot : IsFn Tryz.prog 89 Tryz.f89 code89 := ⟨Tryz.func89, rfl, by kernel_rfl⟩
noncomputable def code90 : Code := (Tryz.f90.body).getD .skip
abbrev n_math_bits_Len : Nat := 90
theorem fn_math_bits_Len : IsFn Tryz.prog 90 Tryz.f90 code90 := ⟨Tryz.func90, rfl, by kernel_rfl⟩
noncomputable def code91 : Code := (Tryz.f91.body).getD .skip
abbrev n_cmp_isNaN_int64 : Nat := 91
theorem fn_cmp_isNaN_int64 : IsFn Tryz.prog 91 Tryz.f91 code91 := ⟨Tryz.func91, rfl, by kernel_rfl⟩
noncomputable def code92 : Code := (Tryz.f92.body).getD .skip
abbrev n_impl_floor : Nat := 92
theorem fn_impl_floor : IsFn Tryz.prog 92 Tryz.f92 code92 := ⟨Tryz.func92, rfl, by kernel_rfl⟩
noncomputable def code93 : Code := (Tryz.f93.body).getD .skip
abbrev n_spec_l01Floor : Nat := 93
theorem fn_spec_l01Floor : IsFn Tryz.prog 93 Tryz.f93 code93 := ⟨Tryz.func93, rfl, by kernel_rfl⟩
noncomputable def code94 : Code := (Tryz.f94.body).getD .skip
abbrev n_slices_insertionSortCmpFunc_Spot : Nat := 94
theorem fn_slices_insertionSortCmpFunc_Spot : IsFn Tryz.prog 94 Tryz.f94 code94 := ⟨Tryz.func94, rfl, by kernel_rfl⟩
noncomputable def code95 : Code := (Tryz.f95.body).getD .skip
abbrev n_slices_heapSortCmpFunc_Spot : Nat := 95
theorem fn_slices_heapSortCmpFunc_Spot : IsFn Tryz.prog 95 Tryz.f95 code95 := ⟨Tryz.func95, rfl, by kernel_rfl⟩
noncomputable def code96 : Code := (Tryz.f96.body).getD .skip
abbrev n_slices_breakPatternsCmpFunc_Spot : Nat := 96
theorem fn_slices_breakPatternsCmpFunc_Spot : IsFn Tryz.prog 96 Tryz.f96 code96 := ⟨Tryz.func96, rfl, by kernel_rfl⟩
noncomputable def code97 : Code := (Tryz.f97.body).getD .skip
abbrev n_slices_choosePivotCmpFunc_Spot : Nat := 97
theorem fn_slices_choosePivotCmpFunc_Spot : IsFn Tryz.prog 97 Tryz.f97 code97 := ⟨Tryz.func97, rfl, by kernel_rfl⟩
noncomputable def code98 : Code := (Tryz.f98.body).getD .skip
abbrev n_slices_reverseRangeCmpFunc_Spot : Nat := 98
theorem fn_slices_reverseRangeCmpFunc_Spot : IsFn Tryz.prog 98 Tryz.f98 code98 := ⟨Tryz.func98, rfl, by kernel_rfl⟩
noncomputable def code99 : Code := (Tryz.f99.body).getD .skip
abbrev n_slices_partialInsertionSortCmpFunc_Spot : Nat := 99
theorem fn_slices_partialInsertionSortCmpFunc_Spot : IsFn Tryz.prog 99 Tryz.f99 code99 := ⟨Tryz.func99, rfl, by kernel_rfl⟩
noncomputable def code100 : Code := (Tryz.f100.body).getD .skip
abbrev n_slices_partitionEqualCmpFunc_Spot : Nat := 100
theorem fn_slices_partitionEqualCmpFunc_Spot : IsFn Tryz.prog 100 Tryz.f100 code100 := ⟨Tryz.func100, rfl, by kernel_rfl⟩
noncomputable def code101 : Code := (Tryz.f101.body).getD .skip
abbrev n_slices_partitionCmpFunc_Spot : Nat := 101
theorem fn_slices_partitionCmpFunc_Spot : IsFn Tryz.prog 101 Tryz.f101 code101 := ⟨Tryz.func101, rfl, by kernel_rfl⟩
noncomputable def code102 : Code := (Tryz.f102.body).getD .skip
abbrev n_math_bits_Len32 : Nat := 102
theorem fn_math_bits_Len32 : IsFn Tryz.prog 102 Tryz.f102 code102 := ⟨Tryz.func102, rfl, by kernel_rfl⟩
noncomputable def code103 : Code := (Tryz.f103.body).getD .skip
abbrev n_math_bits_Len64 : Nat := 103
theorem fn_math_bits_Len64 : IsFn Tryz.prog 103 Tryz.f103 code103 := ⟨Tryz.func103, rfl, by kernel_rfl⟩
noncomputable def code104 : Code := (Tryz.f104.body).getD .skip
abbrev n_slices_siftDownCmpFunc_Spot : Nat := 104
theorem fn_slices_siftDownCmpFunc_Spot : IsFn Tryz.prog 104 Tryz.f104 code104 := ⟨Tryz.func104, rfl, by kernel_rfl⟩
noncomputable def code105 : Code := (Tryz.f105.body).getD .skip
abbrev n_slices_nextPowerOfTwo : Nat := 105
theorem fn_slices_nextPowerOfTwo : IsFn Tryz.prog 105 Tryz.f105 code105 := ⟨Tryz.func105, rfl, by kernel_rfl⟩
noncomputable def code106 : Code := (Tryz.f106.body).getD .skip
abbrev n_slices_xorshift_Next : Nat := 106
theorem fn_slices_xorshift_Next : IsFn Tryz.prog 106 Tryz.f106 code106 := ⟨Tryz.func106, rfl, by kernel_rfl⟩
noncomputable def code107 : Code := (Tryz.f107.body).getD .skip
abbrev n_slices_medianAdjacentCmpFunc_Spot : Nat := 107
theorem fn_slices_medianAdjacentCmpFunc_Spot : IsFn Tryz.prog 107 Tryz.f107 code107 := ⟨Tryz.func107, rfl, by kernel_rfl⟩
noncomputable def code108 : Code := (Tryz.f108.body).getD .skip
abbrev n_slices_medianCmpFunc_Spot : Nat := 108
theorem fn_slices_medianCmpFunc_Spot : IsFn Tryz.prog 108 Tryz.f108 code108 := ⟨Tryz.func108, rfl, by kernel_rfl⟩
noncomputable def code109 : Code := (Tryz.f109.body).getD .skip
abbrev n_slices_order2CmpFunc_Spot : Nat := 109
theorem fn_slices_order2CmpFunc_Spot : IsFn Tryz.prog 109 Tryz.f109 code109 := ⟨Tryz.func109, rfl, by kernel_rfl⟩

end Go.Proofs.YtndmkibdcfpddaaGreat
