/-
  The types of this translation, as the evaluator reads them; and what is known of each function's text.
  Conditions: none.
-/
import Derived.Test.YtjakdmfodnpkkaaEvUse
import Derived.Test.YtjakdmfodnpkkaaEvEqS
import Derived.Test.YtjakdmfodnpkkaaRows
import Derived.KernelRfl
set_option linter.unusedVariables false
set_option linter.unusedSimpArgs false
namespace Go.Proofs.Ytjakdmfodnpkkaa
open Go.Ev Go.RowKit

def ti2 : TI := { t := 2, size := 1, zero := [.int .i64 0], sh := .int .i64, bytes := 8 }
def ti3 : TI := { t := 3, size := 1, zero := [.int .i64 0], sh := .int .i64, bytes := 8 }
def ti4 : TI := { t := 4, size := 1, zero := [.bool false], sh := .bool, bytes := 1 }
def ti5 : TI := { t := 5, size := 1, zero := [.int .u8 0], sh := .int .u8, bytes := 1 }
def ti9 : TI := { t := 9, size := 1, zero := [.string ⟨#[]⟩], sh := .string, bytes := 16 }
def ti21 : TI := { t := 21, size := 1, zero := [.int .i32 0], sh := .int .i32, bytes := 4 }
def ti22 : TI := { t := 22, size := 2, zero := [.int .i64 0, .int .i64 0], sh := .arr 2 2 1 false, eqs := true, bytes := 16 }
def ti23 : TI := { t := 23, size := 1, zero := [.slice none 0 0], sh := .slice 26 2, bytes := 24 }
def ti26 : TI := { t := 26, size := 2, zero := [.int .i64 0, .int .i64 0], sh := .arr 2 2 1 false, eqs := true, bytes := 16 }
def ti31 : TI := { t := 31, size := 1, zero := [.slice none 0 0], sh := .slice 2 1, bytes := 24 }
def ti44 : TI := { t := 44, size := 1, zero := [.slice none 0 0], sh := .slice 5 1, bytes := 24 }
def ti60 : TI := { t := 60, size := 1, zero := [.pointer none], sh := .cell, bytes := 8 }
def ti63 : TI := { t := 63, size := 2, zero := [.slice none 0 0, .slice none 0 0], sh := .str [(0, 1, false), (1, 1, false)], bytes := 48 }
def ti64 : TI := { t := 64, size := 2, zero := [.slice none 0 0, .slice none 0 0], sh := .str [(0, 1, false), (1, 1, false)], bytes := 48 }
def ti68 : TI := { t := 68, size := 1, zero := [.slice none 0 0], sh := .slice 3 1, bytes := 24 }
def ti75 : TI := { t := 75, size := 1, zero := [.pointer none], sh := .cell, bytes := 8 }
def ti92 : TI := { t := 92, size := 1, zero := [.int .u64 0], sh := .int .u64, bytes := 8 }
def ti93 : TI := { t := 93, size := 3, zero := [.slice none 0 0, .int .i64 0, .int .u64 0], sh := .str [(0, 1, false), (1, 1, false), (2, 1, false)], bytes := 40 }
def ti94 : TI := { t := 94, size := 3, zero := [.slice none 0 0, .int .i64 0, .int .u64 0], sh := .str [(0, 1, false), (1, 1, false), (2, 1, false)], bytes := 40 }
def ti97 : TI := { t := 97, size := 1, zero := [.int .u64 0], sh := .int .u64, bytes := 8 }
def ti103 : TI := { t := 103, size := 4, zero := [.pointer none, .pointer none, .pointer none, .string ⟨#[]⟩], sh := .str [(0, 1, false), (1, 1, false), (2, 1, false), (3, 1, false)], bytes := 40 }
def ti105 : TI := { t := 105, size := 0, zero := [], sh := .arr 0 16 1 false, bytes := 0 }
def ti106 : TI := { t := 106, size := 0, zero := [], sh := .str [(0, 0, true)], bytes := 0 }
def ti109 : TI := { t := 109, size := 1, zero := [.int .u32 0], sh := .int .u32, bytes := 4 }
def ti113 : TI := { t := 113, size := 1, zero := [.pointer none], sh := .cell, bytes := 8 }
def ti116 : TI := { t := 116, size := 11, zero := [.int .u64 0, .int .u64 0, .int .u32 0, .int .u8 0, .int .u8 0, .int .u8 0, .int .u8 0, .nilFunc, .pointer none, .int .i32 0, .int .i32 0], sh := .str [(0, 1, false), (1, 1, false), (2, 1, false), (3, 1, false), (4, 1, false), (5, 1, false), (6, 1, false), (7, 1, false), (8, 1, false), (9, 1, false), (10, 1, false)], bytes := 48 }

def tbl : Tbl := [ti2, ti3, ti4, ti5, ti9, ti21, ti22, ti23, ti26, ti31, ti44, ti60, ti63, ti64, ti68, ti75, ti92, ti93, ti94, ti97, ti103, ti105, ti106, ti109, ti113, ti116]

theorem ti2_ok : ti2.Ok Try.prog := ⟨by kernel_rfl, (show Try.prog.underlying 2 = some (.int .i64) by kernel_rfl), rfl, fun h => by cases h⟩
theorem ti3_ok : ti3.Ok Try.prog := ⟨by kernel_rfl, (show Try.prog.underlying 3 = some (.int .i64) by kernel_rfl), rfl, fun h => by cases h⟩
theorem ti4_ok : ti4.Ok Try.prog := ⟨by kernel_rfl, (show Try.prog.underlying 4 = some .bool by kernel_rfl), rfl, fun h => by cases h⟩
theorem ti5_ok : ti5.Ok Try.prog := ⟨by kernel_rfl, (show Try.prog.underlying 5 = some (.int .u8) by kernel_rfl), rfl, fun h => by cases h⟩
theorem ti9_ok : ti9.Ok Try.prog := ⟨by kernel_rfl, (show Try.prog.underlying 9 = some .string by kernel_rfl), rfl, fun h => by cases h⟩
theorem ti21_ok : ti21.Ok Try.prog := ⟨by kernel_rfl, (show Try.prog.underlying 21 = some (.int .i32) by kernel_rfl), rfl, fun h => by cases h⟩
theorem ti22_ok : ti22.Ok Try.prog := ⟨by kernel_rfl, ⟨by kernel_rfl, by kernel_rfl, by kernel_rfl⟩, rfl, fun _ => eq_arr2 (e := 2) (by kernel_rfl) (by kernel_rfl) (by kernel_rfl) (by kernel_rfl)⟩
theorem ti23_ok : ti23.Ok Try.prog := ⟨by kernel_rfl, ⟨by kernel_rfl, by kernel_rfl⟩, rfl, fun h => by cases h⟩
theorem ti26_ok : ti26.Ok Try.prog := ⟨by kernel_rfl, ⟨by kernel_rfl, by kernel_rfl, by kernel_rfl⟩, rfl, fun _ => eq_arr2 (e := 2) (by kernel_rfl) (by kernel_rfl) (by kernel_rfl) (by kernel_rfl)⟩
theorem ti31_ok : ti31.Ok Try.prog := ⟨by kernel_rfl, ⟨by kernel_rfl, by kernel_rfl⟩, rfl, fun h => by cases h⟩
theorem ti44_ok : ti44.Ok Try.prog := ⟨by kernel_rfl, ⟨by kernel_rfl, by kernel_rfl⟩, rfl, fun h => by cases h⟩
theorem ti60_ok : ti60.Ok Try.prog := ⟨by kernel_rfl, (show (Try.prog.underlying 60).map aggD = some false by kernel_rfl), rfl, fun h => by cases h⟩
theorem ti63_ok : ti63.Ok Try.prog := ⟨by kernel_rfl, ⟨Try.prog.fieldsOf 63, by kernel_rfl, by kernel_rfl⟩, rfl, fun h => by cases h⟩
theorem ti64_ok : ti64.Ok Try.prog := ⟨by kernel_rfl, ⟨Try.prog.fieldsOf 64, by kernel_rfl, by kernel_rfl⟩, rfl, fun h => by cases h⟩
theorem ti68_ok : ti68.Ok Try.prog := ⟨by kernel_rfl, ⟨by kernel_rfl, by kernel_rfl⟩, rfl, fun h => by cases h⟩
theorem ti75_ok : ti75.Ok Try.prog := ⟨by kernel_rfl, (show (Try.prog.underlying 75).map aggD = some false by kernel_rfl), rfl, fun h => by cases h⟩
theorem ti92_ok : ti92.Ok Try.prog := ⟨by kernel_rfl, (show Try.prog.underlying 92 = some (.int .u64) by kernel_rfl), rfl, fun h => by cases h⟩
theorem ti93_ok : ti93.Ok Try.prog := ⟨by kernel_rfl, ⟨Try.prog.fieldsOf 93, by kernel_rfl, by kernel_rfl⟩, rfl, fun h => by cases h⟩
theorem ti94_ok : ti94.Ok Try.prog := ⟨by kernel_rfl, ⟨Try.prog.fieldsOf 94, by kernel_rfl, by kernel_rfl⟩, rfl, fun h => by cases h⟩
theorem ti97_ok : ti97.Ok Try.prog := ⟨by kernel_rfl, (show Try.prog.underlying 97 = some (.int .u64) by kernel_rfl), rfl, fun h => by cases h⟩
theorem ti103_ok : ti103.Ok Try.prog := ⟨by kernel_rfl, ⟨Try.prog.fieldsOf 103, by kernel_rfl, by kernel_rfl⟩, rfl, fun h => by cases h⟩
theorem ti105_ok : ti105.Ok Try.prog := ⟨by kernel_rfl, ⟨by kernel_rfl, by kernel_rfl, by kernel_rfl⟩, rfl, fun h => by cases h⟩
theorem ti106_ok : ti106.Ok Try.prog := ⟨by kernel_rfl, ⟨Try.prog.fieldsOf 106, by kernel_rfl, by kernel_rfl⟩, rfl, fun h => by cases h⟩
theorem ti109_ok : ti109.Ok Try.prog := ⟨by kernel_rfl, (show Try.prog.underlying 109 = some (.int .u32) by kernel_rfl), rfl, fun h => by cases h⟩
theorem ti113_ok : ti113.Ok Try.prog := ⟨by kernel_rfl, (show (Try.prog.underlying 113).map aggD = some false by kernel_rfl), rfl, fun h => by cases h⟩
theorem ti116_ok : ti116.Ok Try.prog := ⟨by kernel_rfl, ⟨Try.prog.fieldsOf 116, by kernel_rfl, by kernel_rfl⟩, rfl, fun h => by cases h⟩
abbrev t_L_impl_Point : Nat := 23
abbrev t_impl_Point : Nat := 26
abbrev t_L_int64 : Nat := 31
abbrev t_L_uint8 : Nat := 44
abbrev t_impl_sail : Nat := 64
abbrev t_L_int : Nat := 68
abbrev t_iter_Seq2_int64 : Nat := 80
abbrev t_spec_l01Source : Nat := 94

theorem tbl_ok : tbl.Ok Try.prog := by
  intro i hi
  simp only [tbl, List.mem_cons, List.not_mem_nil, or_false] at hi
  rcases hi with rfl | rfl | rfl | rfl | rfl | rfl | rfl | rfl | rfl | rfl | rfl | rfl | rfl | rfl | rfl | rfl | rfl | rfl | rfl | rfl | rfl | rfl | rfl | rfl | rfl | rfl
  all_goals first
    | exact ti2_ok
    | exact ti3_ok
    | exact ti4_ok
    | exact ti5_ok
    | exact ti9_ok
    | exact ti21_ok
    | exact ti22_ok
    | exact ti23_ok
    | exact ti26_ok
    | exact ti31_ok
    | exact ti44_ok
    | exact ti60_ok
    | exact ti63_ok
    | exact ti64_ok
    | exact ti68_ok
    | exact ti75_ok
    | exact ti92_ok
    | exact ti93_ok
    | exact ti94_ok
    | exact ti97_ok
    | exact ti103_ok
    | exact ti105_ok
    | exact ti106_ok
    | exact ti109_ok
    | exact ti113_ok
    | exact ti116_ok

theorem good : EvGood Try.prog tbl := ⟨tbl_ok, by kernel_rfl⟩

noncomputable def code3 : Code := (Try.f3.body).getD .skip
abbrev n_laws_FnExactAdjacentAngle : Nat := 3
theorem fn_laws_FnExactAdjacentAngle : IsFn Try.prog 3 Try.f3 code3 := ⟨Try.func3, rfl, by kernel_rfl⟩
noncomputable def code4 : Code := (Try.f4.body).getD .skip
abbrev n_laws_FnExactAngleOfSequence : Nat := 4
theorem fn_laws_FnExactAngleOfSequence : IsFn Try.prog 4 Try.f4 code4 := ⟨Try.func4, rfl, by kernel_rfl⟩
noncomputable def code5 : Code := (Try.f5.body).getD .skip
abbrev n_laws_FnExactAreaBelow : Nat := 5
theorem fn_laws_FnExactAreaBelow : IsFn Try.prog 5 Try.f5 code5 := ⟨Try.func5, rfl, by kernel_rfl⟩
noncomputable def code6 : Code := (Try.f6.body).getD .skip
abbrev n_laws_FnExactPlaceOnSail : Nat := 6
theorem fn_laws_FnExactPlaceOnSail : IsFn Try.prog 6 Try.f6 code6 := ⟨Try.func6, rfl, by kernel_rfl⟩
noncomputable def code7 : Code := (Try.f7.body).getD .skip
abbrev n_laws_FnExactSailPoints : Nat := 7
theorem fn_laws_FnExactSailPoints : IsFn Try.prog 7 Try.f7 code7 := ⟨Try.func7, rfl, by kernel_rfl⟩
noncomputable def code8 : Code := (Try.f8.body).getD .skip
abbrev n_laws_FnExactSplitPoint : Nat := 8
theorem fn_laws_FnExactSplitPoint : IsFn Try.prog 8 Try.f8 code8 := ⟨Try.func8, rfl, by kernel_rfl⟩
noncomputable def code9 : Code := (Try.f9.body).getD .skip
abbrev n_laws_FnExactSailVertices : Nat := 9
theorem fn_laws_FnExactSailVertices : IsFn Try.prog 9 Try.f9 code9 := ⟨Try.func9, rfl, by kernel_rfl⟩
noncomputable def code10 : Code := (Try.f10.body).getD .skip
abbrev n_laws_FnExactSequenceOf : Nat := 10
theorem fn_laws_FnExactSequenceOf : IsFn Try.prog 10 Try.f10 code10 := ⟨Try.func10, rfl, by kernel_rfl⟩
noncomputable def code11 : Code := (Try.f11.body).getD .skip
abbrev n_laws_FnExactSailLengths : Nat := 11
theorem fn_laws_FnExactSailLengths : IsFn Try.prog 11 Try.f11 code11 := ⟨Try.func11, rfl, by kernel_rfl⟩
noncomputable def code12 : Code := (Try.f12.body).getD .skip
abbrev n_laws_FnExactSailSines : Nat := 12
theorem fn_laws_FnExactSailSines : IsFn Try.prog 12 Try.f12 code12 := ⟨Try.func12, rfl, by kernel_rfl⟩
noncomputable def code13 : Code := (Try.f13.body).getD .skip
abbrev n_laws_FnSequences : Nat := 13
theorem fn_laws_FnSequences : IsFn Try.prog 13 Try.f13 code13 := ⟨Try.func13, rfl, by kernel_rfl⟩
noncomputable def code14 : Code := (Try.f14.body).getD .skip
abbrev n_spec_AdjacentAngle : Nat := 14
theorem fn_spec_AdjacentAngle : IsFn Try.prog 14 Try.f14 code14 := ⟨Try.func14, rfl, by kernel_rfl⟩
noncomputable def code15 : Code := (Try.f15.body).getD .skip
abbrev n_laws_toPoint : Nat := 15
theorem fn_laws_toPoint : IsFn Try.prog 15 Try.f15 code15 := ⟨Try.func15, rfl, by kernel_rfl⟩
noncomputable def code16 : Code := (Try.f16.body).getD .skip
abbrev n_impl_AdjacentAngle : Nat := 16
theorem fn_impl_AdjacentAngle : IsFn Try.prog 16 Try.f16 code16 := ⟨Try.func16, rfl, by kernel_rfl⟩
noncomputable def code17 : Code := (Try.f17.body).getD .skip
abbrev n_laws_eqPointS : Nat := 17
theorem fn_laws_eqPointS : IsFn Try.prog 17 Try.f17 code17 := ⟨Try.func17, rfl, by kernel_rfl⟩
noncomputable def code18 : Code := (Try.f18.body).getD .skip
abbrev n_laws_markPointS : Nat := 18
theorem fn_laws_markPointS : IsFn Try.prog 18 Try.f18 code18 := ⟨Try.func18, rfl, by kernel_rfl⟩
noncomputable def code19 : Code := (Try.f19.body).getD .skip
abbrev n_laws_heldPointS : Nat := 19
theorem fn_laws_heldPointS : IsFn Try.prog 19 Try.f19 code19 := ⟨Try.func19, rfl, by kernel_rfl⟩
noncomputable def code20 : Code := (Try.f20.body).getD .skip
abbrev n_spec_AngleOfSequence : Nat := 20
theorem fn_spec_AngleOfSequence : IsFn Try.prog 20 Try.f20 code20 := ⟨Try.func20, rfl, by kernel_rfl⟩
noncomputable def code21 : Code := (Try.f21.body).getD .skip
abbrev n_laws_toInt64S : Nat := 21
theorem fn_laws_toInt64S : IsFn Try.prog 21 Try.f21 code21 := ⟨Try.func21, rfl, by kernel_rfl⟩
noncomputable def code22 : Code := (Try.f22.body).getD .skip
abbrev n_impl_AngleOfSequence : Nat := 22
theorem fn_impl_AngleOfSequence : IsFn Try.prog 22 Try.f22 code22 := ⟨Try.func22, rfl, by kernel_rfl⟩
noncomputable def code23 : Code := (Try.f23.body).getD .skip
abbrev n_laws_eqInt64S : Nat := 23
theorem fn_laws_eqInt64S : IsFn Try.prog 23 Try.f23 code23 := ⟨Try.func23, rfl, by kernel_rfl⟩
noncomputable def code24 : Code := (Try.f24.body).getD .skip
abbrev n_laws_markInt64S : Nat := 24
theorem fn_laws_markInt64S : IsFn Try.prog 24 Try.f24 code24 := ⟨Try.func24, rfl, by kernel_rfl⟩
noncomputable def code25 : Code := (Try.f25.body).getD .skip
abbrev n_spec_AreaBelow : Nat := 25
theorem fn_spec_AreaBelow : IsFn Try.prog 25 Try.f25 code25 := ⟨Try.func25, rfl, by kernel_rfl⟩
noncomputable def code26 : Code := (Try.f26.body).getD .skip
abbrev n_impl_AreaBelow : Nat := 26
theorem fn_impl_AreaBelow : IsFn Try.prog 26 Try.f26 code26 := ⟨Try.func26, rfl, by kernel_rfl⟩
noncomputable def code27 : Code := (Try.f27.body).getD .skip
abbrev n_spec_PlaceOnSail : Nat := 27
theorem fn_spec_PlaceOnSail : IsFn Try.prog 27 Try.f27 code27 := ⟨Try.func27, rfl, by kernel_rfl⟩
noncomputable def code28 : Code := (Try.f28.body).getD .skip
abbrev n_impl_PlaceOnSail : Nat := 28
theorem fn_impl_PlaceOnSail : IsFn Try.prog 28 Try.f28 code28 := ⟨Try.func28, rfl, by kernel_rfl⟩
noncomputable def code29 : Code := (Try.f29.body).getD .skip
abbrev n_spec_SailPoints : Nat := 29
theorem fn_spec_SailPoints : IsFn Try.prog 29 Try.f29 code29 := ⟨Try.func29, rfl, by kernel_rfl⟩
noncomputable def code30 : Code := (Try.f30.body).getD .skip
abbrev n_impl_SailPoints : Nat := 30
theorem fn_impl_SailPoints : IsFn Try.prog 30 Try.f30 code30 := ⟨Try.func30, rfl, by kernel_rfl⟩
noncomputable def code31 : Code := (Try.f31.body).getD .skip
abbrev n_spec_SplitPoint : Nat := 31
theorem fn_spec_SplitPoint : IsFn Try.prog 31 Try.f31 code31 := ⟨Try.func31, rfl, by kernel_rfl⟩
noncomputable def code32 : Code := (Try.f32.body).getD .skip
abbrev n_impl_SplitPoint : Nat := 32
theorem fn_impl_SplitPoint : IsFn Try.prog 32 Try.f32 code32 := ⟨Try.func32, rfl, by kernel_rfl⟩
noncomputable def code33 : Code := (Try.f33.body).getD .skip
abbrev n_laws_heldInt64S : Nat := 33
theorem fn_laws_heldInt64S : IsFn Try.prog 33 Try.f33 code33 := ⟨Try.func33, rfl, by kernel_rfl⟩
noncomputable def code34 : Code := (Try.f34.body).getD .skip
abbrev n_spec_SailVertices : Nat := 34
theorem fn_spec_SailVertices : IsFn Try.prog 34 Try.f34 code34 := ⟨Try.func34, rfl, by kernel_rfl⟩
noncomputable def code35 : Code := (Try.f35.body).getD .skip
abbrev n_impl_SailVertices : Nat := 35
theorem fn_impl_SailVertices : IsFn Try.prog 35 Try.f35 code35 := ⟨Try.func35, rfl, by kernel_rfl⟩
noncomputable def code36 : Code := (Try.f36.body).getD .skip
abbrev n_spec_SequenceOf : Nat := 36
theorem fn_spec_SequenceOf : IsFn Try.prog 36 Try.f36 code36 := ⟨Try.func36, rfl, by kernel_rfl⟩
noncomputable def code37 : Code := (Try.f37.body).getD .skip
abbrev n_impl_SequenceOf : Nat := 37
theorem fn_impl_SequenceOf : IsFn Try.prog 37 Try.f37 code37 := ⟨Try.func37, rfl, by kernel_rfl⟩
noncomputable def code38 : Code := (Try.f38.body).getD .skip
abbrev n_spec_SailLengths : Nat := 38
theorem fn_spec_SailLengths : IsFn Try.prog 38 Try.f38 code38 := ⟨Try.func38, rfl, by kernel_rfl⟩
noncomputable def code39 : Code := (Try.f39.body).getD .skip
abbrev n_impl_SailLengths : Nat := 39
theorem fn_impl_SailLengths : IsFn Try.prog 39 Try.f39 code39 := ⟨Try.func39, rfl, by kernel_rfl⟩
noncomputable def code40 : Code := (Try.f40.body).getD .skip
abbrev n_spec_SailSines : Nat := 40
theorem fn_spec_SailSines : IsFn Try.prog 40 Try.f40 code40 := ⟨Try.func40, rfl, by kernel_rfl⟩
noncomputable def code41 : Code := (Try.f41.body).getD .skip
abbrev n_impl_SailSines : Nat := 41
theorem fn_impl_SailSines : IsFn Try.prog 41 Try.f41 code41 := ⟨Try.func41, rfl, by kernel_rfl⟩
noncomputable def code42 : Code := (Try.f42.body).getD .skip
abbrev n_laws_big : Nat := 42
theorem fn_laws_big : IsFn Try.prog 42 Try.f42 code42 := ⟨Try.func42, rfl, by kernel_rfl⟩
noncomputable def code43 : Code := (Try.f43.body).getD .skip
abbrev n_spec_DrawSequenceOf : Nat := 43
theorem fn_spec_DrawSequenceOf : IsFn Try.prog 43 Try.f43 code43 := ⟨Try.func43, rfl, by kernel_rfl⟩
noncomputable def code44 : Code := (Try.f44.body).getD .skip
abbrev n_laws_likeInts : Nat := 44
theorem fn_laws_likeInts : IsFn Try.prog 44 Try.f44 code44 := ⟨Try.func44, rfl, by kernel_rfl⟩
noncomputable def code45 : Code := (Try.f45.body).getD .skip
abbrev n_impl_DeterminantOf : Nat := 45
theorem fn_impl_DeterminantOf : IsFn Try.prog 45 Try.f45 code45 := ⟨Try.func45, rfl, by kernel_rfl⟩
noncomputable def code46 : Code := (Try.f46.body).getD .skip
abbrev n_impl_FractionOf : Nat := 46
theorem fn_impl_FractionOf : IsFn Try.prog 46 Try.f46 code46 := ⟨Try.func46, rfl, by kernel_rfl⟩
noncomputable def code47 : Code := (Try.f47.body).getD .skip
abbrev n_spec_DrawAngleOfSequence : Nat := 47
theorem fn_spec_DrawAngleOfSequence : IsFn Try.prog 47 Try.f47 code47 := ⟨Try.func47, rfl, by kernel_rfl⟩
noncomputable def code48 : Code := (Try.f48.body).getD .skip
abbrev n_laws_points5 : Nat := 48
theorem fn_laws_points5 : IsFn Try.prog 48 Try.f48 code48 := ⟨Try.func48, rfl, by kernel_rfl⟩
noncomputable def code49 : Code := (Try.f49.body).getD .skip
abbrev n_spec_DrawSailLengths : Nat := 49
theorem fn_spec_DrawSailLengths : IsFn Try.prog 49 Try.f49 code49 := ⟨Try.func49, rfl, by kernel_rfl⟩
noncomputable def code50 : Code := (Try.f50.body).getD .skip
abbrev n_spec_DrawSailSines : Nat := 50
theorem fn_spec_DrawSailSines : IsFn Try.prog 50 Try.f50 code50 := ⟨Try.func50, rfl, by kernel_rfl⟩
noncomputable def code51 : Code := (Try.f51.body).getD .skip
abbrev n_spec_DrawAreaBelow : Nat := 51
theorem fn_spec_DrawAreaBelow : IsFn Try.prog 51 Try.f51 code51 := ⟨Try.func51, rfl, by kernel_rfl⟩
noncomputable def code52 : Code := (Try.f52.body).getD .skip
abbrev n_spec_l03Is : Nat := 52
theorem fn_spec_l03Is : IsFn Try.prog 52 Try.f52 code52 := ⟨Try.func52, rfl, by kernel_rfl⟩
noncomputable def code53 : Code := (Try.f53.body).getD .skip
abbrev n_impl_IsAngle : Nat := 53
theorem fn_impl_IsAngle : IsFn Try.prog 53 Try.f53 code53 := ⟨Try.func53, rfl, by kernel_rfl⟩
noncomputable def code54 : Code := (Try.f54.body).getD .skip
abbrev n_impl_Point_less : Nat := 54
theorem fn_impl_Point_less : IsFn Try.prog 54 Try.f54 code54 := ⟨Try.func54, rfl, by kernel_rfl⟩
noncomputable def code55 : Code := (Try.f55.body).getD .skip
abbrev n_laws_eqPoint : Nat := 55
theorem fn_laws_eqPoint : IsFn Try.prog 55 Try.f55 code55 := ⟨Try.func55, rfl, by kernel_rfl⟩
noncomputable def code56 : Code := (Try.f56.body).getD .skip
abbrev n_spec_l01Plus : Nat := 56
theorem fn_spec_l01Plus : IsFn Try.prog 56 Try.f56 code56 := ⟨Try.func56, rfl, by kernel_rfl⟩
noncomputable def code57 : Code := (Try.f57.body).getD .skip
abbrev n_spec_l01Is : Nat := 57
theorem fn_spec_l01Is : IsFn Try.prog 57 Try.f57 code57 := ⟨Try.func57, rfl, by kernel_rfl⟩
noncomputable def code58 : Code := (Try.f58.body).getD .skip
abbrev n_slices_ContainsFunc_int64 : Nat := 58
theorem fn_slices_ContainsFunc_int64 : IsFn Try.prog 58 Try.f58 code58 := ⟨Try.func58, rfl, by kernel_rfl⟩
noncomputable def code59 : Code := (Try.f59.body).getD .skip
abbrev n_impl_AngleOfSequence_1 : Nat := 59
theorem fn_impl_AngleOfSequence_1 : IsFn Try.prog 59 Try.f59 code59 := ⟨Try.func59, rfl, by kernel_rfl⟩
noncomputable def code60 : Code := (Try.f60.body).getD .skip
abbrev n_impl_AngleOfSequence_2 : Nat := 60
theorem fn_impl_AngleOfSequence_2 : IsFn Try.prog 60 Try.f60 code60 := ⟨Try.func60, rfl, by kernel_rfl⟩
noncomputable def code61 : Code := (Try.f61.body).getD .skip
abbrev n_impl_Point_plus : Nat := 61
theorem fn_impl_Point_plus : IsFn Try.prog 61 Try.f61 code61 := ⟨Try.func61, rfl, by kernel_rfl⟩
noncomputable def code62 : Code := (Try.f62.body).getD .skip
abbrev n_impl_IsPoint : Nat := 62
theorem fn_impl_IsPoint : IsFn Try.prog 62 Try.f62 code62 := ⟨Try.func62, rfl, by kernel_rfl⟩
noncomputable def code63 : Code := (Try.f63.body).getD .skip
abbrev n_spec_l03Code : Nat := 63
theorem fn_spec_l03Code : IsFn Try.prog 63 Try.f63 code63 := ⟨Try.func63, rfl, by kernel_rfl⟩
noncomputable def code64 : Code := (Try.f64.body).getD .skip
abbrev n_impl_angleSail : Nat := 64
theorem fn_impl_angleSail : IsFn Try.prog 64 Try.f64 code64 := ⟨Try.func64, rfl, by kernel_rfl⟩
noncomputable def code65 : Code := (Try.f65.body).getD .skip
abbrev n_impl_sailOf : Nat := 65
theorem fn_impl_sailOf : IsFn Try.prog 65 Try.f65 code65 := ⟨Try.func65, rfl, by kernel_rfl⟩
noncomputable def code66 : Code := (Try.f66.body).getD .skip
abbrev n_slices_Index_Point : Nat := 66
theorem fn_slices_Index_Point : IsFn Try.prog 66 Try.f66 code66 := ⟨Try.func66, rfl, by kernel_rfl⟩
noncomputable def code67 : Code := (Try.f67.body).getD .skip
abbrev n_spec_l03Inside : Nat := 67
theorem fn_spec_l03Inside : IsFn Try.prog 67 Try.f67 code67 := ⟨Try.func67, rfl, by kernel_rfl⟩
noncomputable def code68 : Code := (Try.f68.body).getD .skip
abbrev n_spec_l01Det : Nat := 68
theorem fn_spec_l01Det : IsFn Try.prog 68 Try.f68 code68 := ⟨Try.func68, rfl, by kernel_rfl⟩
noncomputable def code69 : Code := (Try.f69.body).getD .skip
abbrev n_impl_inAngle : Nat := 69
theorem fn_impl_inAngle : IsFn Try.prog 69 Try.f69 code69 := ⟨Try.func69, rfl, by kernel_rfl⟩
noncomputable def code70 : Code := (Try.f70.body).getD .skip
abbrev n_impl_det : Nat := 70
theorem fn_impl_det : IsFn Try.prog 70 Try.f70 code70 := ⟨Try.func70, rfl, by kernel_rfl⟩
noncomputable def code71 : Code := (Try.f71.body).getD .skip
abbrev n_impl_sail_vertices : Nat := 71
theorem fn_impl_sail_vertices : IsFn Try.prog 71 Try.f71 code71 := ⟨Try.func71, rfl, by kernel_rfl⟩
noncomputable def code72 : Code := (Try.f72.body).getD .skip
abbrev n_spec_l03Parts : Nat := 72
theorem fn_spec_l03Parts : IsFn Try.prog 72 Try.f72 code72 := ⟨Try.func72, rfl, by kernel_rfl⟩
noncomputable def code73 : Code := (Try.f73.body).getD .skip
abbrev n_impl_sail_sequence : Nat := 73
theorem fn_impl_sail_sequence : IsFn Try.prog 73 Try.f73 code73 := ⟨Try.func73, rfl, by kernel_rfl⟩
noncomputable def code74 : Code := (Try.f74.body).getD .skip
abbrev n_impl_every : Nat := 74
theorem fn_impl_every : IsFn Try.prog 74 Try.f74 code74 := ⟨Try.func74, rfl, by kernel_rfl⟩
noncomputable def code75 : Code := (Try.f75.body).getD .skip
abbrev n_spec_l03Draw : Nat := 75
theorem fn_spec_l03Draw : IsFn Try.prog 75 Try.f75 code75 := ⟨Try.func75, rfl, by kernel_rfl⟩
noncomputable def code76 : Code := (Try.f76.body).getD .skip
abbrev n_spec_l01From : Nat := 76
theorem fn_spec_l01From : IsFn Try.prog 76 Try.f76 code76 := ⟨Try.func76, rfl, by kernel_rfl⟩
noncomputable def code77 : Code := (Try.f77.body).getD .skip
abbrev n_impl_points : Nat := 77
theorem fn_impl_points : IsFn Try.prog 77 Try.f77 code77 := ⟨Try.func77, rfl, by kernel_rfl⟩
noncomputable def code78 : Code := (Try.f78.body).getD .skip
abbrev n_impl_in : Nat := 78
theorem fn_impl_in : IsFn Try.prog 78 Try.f78 code78 := ⟨Try.func78, rfl, by kernel_rfl⟩
noncomputable def code79 : Code := (Try.f79.body).getD .skip
abbrev n_impl_isCoord : Nat := 79
theorem fn_impl_isCoord : IsFn Try.prog 79 Try.f79 code79 := ⟨Try.func79, rfl, by kernel_rfl⟩
noncomputable def code80 : Code := (Try.f80.body).getD .skip
abbrev n_slices_Backward_int64 : Nat := 80
theorem fn_slices_Backward_int64 : IsFn Try.prog 80 Try.f80 code80 := ⟨Try.func80, rfl, by kernel_rfl⟩
noncomputable def code81 : Code := (Try.f81.body).getD .skip
abbrev n_spec_l01Pick : Nat := 81
theorem fn_spec_l01Pick : IsFn Try.prog 81 Try.f81 code81 := ⟨Try.func81, rfl, by kernel_rfl⟩
noncomputable def code82 : Code := (Try.f82.body).getD .skip
abbrev n_spec_l01Next : Nat := 82
theorem fn_spec_l01Next : IsFn Try.prog 82 Try.f82 code82 := ⟨Try.func82, rfl, by kernel_rfl⟩
noncomputable def code83 : Code := (Try.f83.body).getD .skip
abbrev n_spec_l01Gcd : Nat := 83
theorem fn_spec_l01Gcd : IsFn Try.prog 83 Try.f83 code83 := ⟨Try.func83, rfl, by kernel_rfl⟩
noncomputable def code84 : Code := (Try.f84.body).getD .skip
abbrev n_impl_Point_isPrimitive : Nat := 84
theorem fn_impl_Point_isPrimitive : IsFn Try.prog 84 Try.f84 code84 := ⟨Try.func84, rfl, by kernel_rfl⟩
noncomputable def code85 : Code := (Try.f85.body).getD .skip
abbrev n_spec_l01Fits : Nat := 85
theorem fn_spec_l01Fits : IsFn Try.prog 85 Try.f85 code85 := ⟨Try.func85, rfl, by kernel_rfl⟩
noncomputable def code86 : Code := (Try.f86.body).getD .skip
abbrev n_slices_IndexFunc_int64 : Nat := 86
theorem fn_slices_IndexFunc_int64 : IsFn Try.prog 86 Try.f86 code86 := ⟨Try.func86, rfl, by kernel_rfl⟩
noncomputable def code87 : Code := (Try.f87.body).getD .skip
abbrev n_spec_l03Sail : Nat := 87
theorem fn_spec_l03Sail : IsFn Try.prog 87 Try.f87 code87 := ⟨Try.func87, rfl, by kernel_rfl⟩
noncomputable def code88 : Code := (Try.f88.body).getD .skip
abbrev n_impl_Point_mate : Nat := 88
theorem fn_impl_Point_mate : IsFn Try.prog 88 Try.f88 code88 := ⟨Try.func88, rfl, by kernel_rfl⟩
noncomputable def code89 : Code := (Try.f89.body).getD .skip
abbrev n_impl_floor : Nat := 89
theorem fn_impl_floor : IsFn Try.prog 89 Try.f89 code89 := ⟨Try.func89, rfl, by kernel_rfl⟩
noncomputable def code90 : Code := (Try.f90.body).getD .skip
abbrev n_spec_l03DrawOf : Nat := 90
theorem fn_spec_l03DrawOf : IsFn Try.prog 90 Try.f90 code90 := ⟨Try.func90, rfl, by kernel_rfl⟩
noncomputable def code91 : Code := (Try.f91.body).getD .skip
abbrev n_spec_l01Bad : Nat := 91
theorem fn_spec_l01Bad : IsFn Try.prog 91 Try.f91 code91 := ⟨Try.func91, rfl, by kernel_rfl⟩
noncomputable def code92 : Code := (Try.f92.body).getD .skip
abbrev n_slices_ContainsFunc_Point : Nat := 92
theorem fn_slices_ContainsFunc_Point : IsFn Try.prog 92 Try.f92 code92 := ⟨Try.func92, rfl, by kernel_rfl⟩
noncomputable def code93 : Code := (Try.f93.body).getD .skip
abbrev n_impl_points_1 : Nat := 93
theorem fn_impl_points_1 : IsFn Try.prog 93 Try.f93 code93 := ⟨Try.func93, rfl, by kernel_rfl⟩
noncomputable def code94 : Code := (Try.f94.body).getD .skip
abbrev n_slices_Backward_int64_1 : Nat := 94
theorem fn_slices_Backward_int64_1 : IsFn Try.prog 94 Try.f94 code94 := ⟨Try.func94, rfl, by kernel_rfl⟩
noncomputable def code95 : Code := (Try.f95.body).getD .skip
abbrev n_impl_Point_length : Nat := 95
theorem fn_impl_Point_length : IsFn Try.prog 95 Try.f95 code95 := ⟨Try.func95, rfl, by kernel_rfl⟩
noncomputable def code96 : Code := (Try.f96.body).getD .skip
abbrev n_spec_l01In : Nat := 96
theorem fn_spec_l01In : IsFn Try.prog 96 Try.f96 code96 := ⟨Try.func96, rfl, by kernel_rfl⟩
noncomputable def code97 : Code := (Try.f97.body).getD .skip
abbrev n_spec_l01Base : Nat := 97
theorem fn_spec_l01Base : IsFn Try.prog 97 Try.f97 code97 := ⟨Try.func97, rfl, by kernel_rfl⟩
noncomputable def code98 : Code := (Try.f98.body).getD .skip
abbrev n_spec_l01Floor : Nat := 98
theorem fn_spec_l01Floor : IsFn Try.prog 98 Try.f98 code98 := ⟨Try.func98, rfl, by kernel_rfl⟩
noncomputable def code99 : Code := (Try.f99.body).getD .skip
abbrev n_impl_mod : Nat := 99
theorem fn_impl_mod : IsFn Try.prog 99 Try.f99 code99 := ⟨Try.func99, rfl, by kernel_rfl⟩
noncomputable def code100 : Code := (Try.f100.body).getD .skip
abbrev n_impl_bezout : Nat := 100
theorem fn_impl_bezout : IsFn Try.prog 100 Try.f100 code100 := ⟨Try.func100, rfl, by kernel_rfl⟩
noncomputable def code101 : Code := (Try.f101.body).getD .skip
abbrev n_impl_size : Nat := 101
theorem fn_impl_size : IsFn Try.prog 101 Try.f101 code101 := ⟨Try.func101, rfl, by kernel_rfl⟩
noncomputable def code102 : Code := (Try.f102.body).getD .skip
abbrev n_spec_l01DrawPrimitive : Nat := 102
theorem fn_spec_l01DrawPrimitive : IsFn Try.prog 102 Try.f102 code102 := ⟨Try.func102, rfl, by kernel_rfl⟩
noncomputable def code103 : Code := (Try.f103.body).getD .skip
abbrev n_slices_IndexFunc_Point : Nat := 103
theorem fn_slices_IndexFunc_Point : IsFn Try.prog 103 Try.f103 code103 := ⟨Try.func103, rfl, by kernel_rfl⟩
noncomputable def code104 : Code := (Try.f104.body).getD .skip
abbrev n_impl_gcd : Nat := 104
theorem fn_impl_gcd : IsFn Try.prog 104 Try.f104 code104 := ⟨Try.func104, rfl, by kernel_rfl⟩
noncomputable def code105 : Code := (Try.f105.body).getD .skip
abbrev n_spec_l01Rest : Nat := 105
theorem fn_spec_l01Rest : IsFn Try.prog 105 Try.f105 code105 := ⟨Try.func105, rfl, by kernel_rfl⟩
noncomputable def code106 : Code := (Try.f106.body).getD .skip
abbrev n_spec_l01DrawPoint : Nat := 106
theorem fn_spec_l01DrawPoint : IsFn Try.prog 106 Try.f106 code106 := ⟨Try.func106, rfl, by kernel_rfl⟩
noncomputable def code107 : Code := (Try.f107.body).getD .skip
abbrev n_spec_l01Part : Nat := 107
theorem fn_spec_l01Part : IsFn Try.prog 107 Try.f107 code107 := ⟨Try.func107, rfl, by kernel_rfl⟩

end Go.Proofs.Ytjakdmfodnpkkaa
