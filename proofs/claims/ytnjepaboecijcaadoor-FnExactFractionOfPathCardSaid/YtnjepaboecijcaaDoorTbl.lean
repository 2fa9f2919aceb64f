/-
  The types of this translation, as the evaluator reads them; and what is known of each function's text.
  Conditions: none.
-/
import Derived.Test.YtnjepaboecijcaaDoorEvUse
import Derived.Test.YtnjepaboecijcaaDoorEvEqS
import Derived.Test.YtnjepaboecijcaaDoorRows
import Derived.KernelRfl
set_option linter.unusedVariables false
set_option linter.unusedSimpArgs false
namespace Go.Proofs.YtnjepaboecijcaaDoor
open Go.Ev Go.RowKit

def ti2 : TI := { t := 2, size := 1, zero := [.int .i64 0], sh := .int .i64, bytes := 8 }
def ti3 : TI := { t := 3, size := 1, zero := [.int .i64 0], sh := .int .i64, bytes := 8 }
def ti4 : TI := { t := 4, size := 1, zero := [.bool false], sh := .bool, bytes := 1 }
def ti5 : TI := { t := 5, size := 1, zero := [.int .u8 0], sh := .int .u8, bytes := 1 }
def ti9 : TI := { t := 9, size := 1, zero := [.string ⟨#[]⟩], sh := .string, bytes := 16 }
def ti21 : TI := { t := 21, size := 1, zero := [.int .i32 0], sh := .int .i32, bytes := 4 }
def ti22 : TI := { t := 22, size := 2, zero := [.int .i64 0, .int .i64 0], sh := .arr 2 2 1 false, eqs := true, bytes := 16 }
def ti23 : TI := { t := 23, size := 2, zero := [.int .i64 0, .int .i64 0], sh := .arr 2 2 1 false, eqs := true, bytes := 16 }
def ti43 : TI := { t := 43, size := 1, zero := [.pointer none], sh := .cell, bytes := 8 }
def ti50 : TI := { t := 50, size := 1, zero := [.int .u64 0], sh := .int .u64, bytes := 8 }
def ti51 : TI := { t := 51, size := 2, zero := [.int .u8 0, .int .u8 0], sh := .str [(0, 1, false), (1, 1, false)], bytes := 2 }
def ti52 : TI := { t := 52, size := 2, zero := [.int .u8 0, .int .u8 0], sh := .str [(0, 1, false), (1, 1, false)], bytes := 2 }
def ti53 : TI := { t := 53, size := 32, zero := [.int .u8 0, .int .u8 0, .int .u8 0, .int .u8 0, .int .u8 0, .int .u8 0, .int .u8 0, .int .u8 0, .int .u8 0, .int .u8 0, .int .u8 0, .int .u8 0, .int .u8 0, .int .u8 0, .int .u8 0, .int .u8 0, .int .u8 0, .int .u8 0, .int .u8 0, .int .u8 0, .int .u8 0, .int .u8 0, .int .u8 0, .int .u8 0, .int .u8 0, .int .u8 0, .int .u8 0, .int .u8 0, .int .u8 0, .int .u8 0, .int .u8 0, .int .u8 0], sh := .arr 16 52 2 true, bytes := 32 }
def ti59 : TI := { t := 59, size := 4, zero := [.pointer none, .pointer none, .pointer none, .string ⟨#[]⟩], sh := .str [(0, 1, false), (1, 1, false), (2, 1, false), (3, 1, false)], bytes := 40 }
def ti61 : TI := { t := 61, size := 0, zero := [], sh := .arr 0 16 1 false, bytes := 0 }
def ti62 : TI := { t := 62, size := 0, zero := [], sh := .str [(0, 0, true)], bytes := 0 }
def ti65 : TI := { t := 65, size := 1, zero := [.int .u32 0], sh := .int .u32, bytes := 4 }
def ti69 : TI := { t := 69, size := 1, zero := [.pointer none], sh := .cell, bytes := 8 }
def ti72 : TI := { t := 72, size := 11, zero := [.int .u64 0, .int .u64 0, .int .u32 0, .int .u8 0, .int .u8 0, .int .u8 0, .int .u8 0, .nilFunc, .pointer none, .int .i32 0, .int .i32 0], sh := .str [(0, 1, false), (1, 1, false), (2, 1, false), (3, 1, false), (4, 1, false), (5, 1, false), (6, 1, false), (7, 1, false), (8, 1, false), (9, 1, false), (10, 1, false)], bytes := 48 }

def tbl : Tbl := [ti2, ti3, ti4, ti5, ti9, ti21, ti22, ti23, ti43, ti50, ti51, ti52, ti53, ti59, ti61, ti62, ti65, ti69, ti72]

theorem ti2_ok : ti2.Ok Tryd.prog := ⟨by kernel_rfl, (show Tryd.prog.underlying 2 = some (.int .i64) by kernel_rfl), rfl, fun h => by cases h⟩
theorem ti3_ok : ti3.Ok Tryd.prog := ⟨by kernel_rfl, (show Tryd.prog.underlying 3 = some (.int .i64) by kernel_rfl), rfl, fun h => by cases h⟩
theorem ti4_ok : ti4.Ok Tryd.prog := ⟨by kernel_rfl, (show Tryd.prog.underlying 4 = some .bool by kernel_rfl), rfl, fun h => by cases h⟩
theorem ti5_ok : ti5.Ok Tryd.prog := ⟨by kernel_rfl, (show Tryd.prog.underlying 5 = some (.int .u8) by kernel_rfl), rfl, fun h => by cases h⟩
theorem ti9_ok : ti9.Ok Tryd.prog := ⟨by kernel_rfl, (show Tryd.prog.underlying 9 = some .string by kernel_rfl), rfl, fun h => by cases h⟩
theorem ti21_ok : ti21.Ok Tryd.prog := ⟨by kernel_rfl, (show Tryd.prog.underlying 21 = some (.int .i32) by kernel_rfl), rfl, fun h => by cases h⟩
theorem ti22_ok : ti22.Ok Tryd.prog := ⟨by kernel_rfl, ⟨by kernel_rfl, by kernel_rfl, by kernel_rfl⟩, rfl, fun _ => eq_arr2 (e := 2) (by kernel_rfl) (by kernel_rfl) (by kernel_rfl) (by kernel_rfl)⟩
theorem ti23_ok : ti23.Ok Tryd.prog := ⟨by kernel_rfl, ⟨by kernel_rfl, by kernel_rfl, by kernel_rfl⟩, rfl, fun _ => eq_arr2 (e := 2) (by kernel_rfl) (by kernel_rfl) (by kernel_rfl) (by kernel_rfl)⟩
theorem ti43_ok : ti43.Ok Tryd.prog := ⟨by kernel_rfl, (show (Tryd.prog.underlying 43).map aggD = some false by kernel_rfl), rfl, fun h => by cases h⟩
theorem ti50_ok : ti50.Ok Tryd.prog := ⟨by kernel_rfl, (show Tryd.prog.underlying 50 = some (.int .u64) by kernel_rfl), rfl, fun h => by cases h⟩
theorem ti51_ok : ti51.Ok Tryd.prog := ⟨by kernel_rfl, ⟨Tryd.prog.fieldsOf 51, by kernel_rfl, by kernel_rfl⟩, rfl, fun h => by cases h⟩
theorem ti52_ok : ti52.Ok Tryd.prog := ⟨by kernel_rfl, ⟨Tryd.prog.fieldsOf 52, by kernel_rfl, by kernel_rfl⟩, rfl, fun h => by cases h⟩
theorem ti53_ok : ti53.Ok Tryd.prog := ⟨by kernel_rfl, ⟨by kernel_rfl, by kernel_rfl, by kernel_rfl⟩, rfl, fun h => by cases h⟩
theorem ti59_ok : ti59.Ok Tryd.prog := ⟨by kernel_rfl, ⟨Tryd.prog.fieldsOf 59, by kernel_rfl, by kernel_rfl⟩, rfl, fun h => by cases h⟩
theorem ti61_ok : ti61.Ok Tryd.prog := ⟨by kernel_rfl, ⟨by kernel_rfl, by kernel_rfl, by kernel_rfl⟩, rfl, fun h => by cases h⟩
theorem ti62_ok : ti62.Ok Tryd.prog := ⟨by kernel_rfl, ⟨Tryd.prog.fieldsOf 62, by kernel_rfl, by kernel_rfl⟩, rfl, fun h => by cases h⟩
theorem ti65_ok : ti65.Ok Tryd.prog := ⟨by kernel_rfl, (show Tryd.prog.underlying 65 = some (.int .u32) by kernel_rfl), rfl, fun h => by cases h⟩
theorem ti69_ok : ti69.Ok Tryd.prog := ⟨by kernel_rfl, (show (Tryd.prog.underlying 69).map aggD = some false by kernel_rfl), rfl, fun h => by cases h⟩
theorem ti72_ok : ti72.Ok Tryd.prog := ⟨by kernel_rfl, ⟨Tryd.prog.fieldsOf 72, by kernel_rfl, by kernel_rfl⟩, rfl, fun h => by cases h⟩
abbrev t_impl_Point : Nat := 23
abbrev t_strings_asciiSet : Nat := 39
abbrev t_unicode_utf8_acceptRange : Nat := 52

theorem tbl_ok : tbl.Ok Tryd.prog := by
  intro i hi
  simp only [tbl, List.mem_cons, List.not_mem_nil, or_false] at hi
  rcases hi with rfl | rfl | rfl | rfl | rfl | rfl | rfl | rfl | rfl | rfl | rfl | rfl | rfl | rfl | rfl | rfl | rfl | rfl | rfl
  all_goals first
    | exact ti2_ok
    | exact ti3_ok
    | exact ti4_ok
    | exact ti5_ok
    | exact ti9_ok
    | exact ti21_ok
    | exact ti22_ok
    | exact ti23_ok
    | exact ti43_ok
    | exact ti50_ok
    | exact ti51_ok
    | exact ti52_ok
    | exact ti53_ok
    | exact ti59_ok
    | exact ti61_ok
    | exact ti62_ok
    | exact ti65_ok
    | exact ti69_ok
    | exact ti72_ok

theorem good : EvGood Tryd.prog tbl := ⟨tbl_ok, by kernel_rfl⟩

noncomputable def code3 : Code := (Tryd.f3.body).getD .skip
abbrev n_laws_FnExactFractionOfPath : Nat := 3
theorem fn_laws_FnExactFractionOfPath : IsFn Tryd.prog 3 Tryd.f3 code3 := ⟨Tryd.func3, rfl, by kernel_rfl⟩
noncomputable def code4 : Code := (Tryd.f4.body).getD .skip
abbrev n_spec_FractionOfPath : Nat := 4
theorem fn_spec_FractionOfPath : IsFn Tryd.prog 4 Tryd.f4 code4 := ⟨Tryd.func4, rfl, by kernel_rfl⟩
noncomputable def code5 : Code := (Tryd.f5.body).getD .skip
abbrev n_impl_FractionOfPath : Nat := 5
theorem fn_impl_FractionOfPath : IsFn Tryd.prog 5 Tryd.f5 code5 := ⟨Tryd.func5, rfl, by kernel_rfl⟩
noncomputable def code6 : Code := (Tryd.f6.body).getD .skip
abbrev n_laws_eqPoint : Nat := 6
theorem fn_laws_eqPoint : IsFn Tryd.prog 6 Tryd.f6 code6 := ⟨Tryd.func6, rfl, by kernel_rfl⟩
noncomputable def code7 : Code := (Tryd.f7.body).getD .skip
abbrev n_spec_l01Plus : Nat := 7
theorem fn_spec_l01Plus : IsFn Tryd.prog 7 Tryd.f7 code7 := ⟨Tryd.func7, rfl, by kernel_rfl⟩
noncomputable def code8 : Code := (Tryd.f8.body).getD .skip
abbrev n_spec_l01Is : Nat := 8
theorem fn_spec_l01Is : IsFn Tryd.prog 8 Tryd.f8 code8 := ⟨Tryd.func8, rfl, by kernel_rfl⟩
noncomputable def code9 : Code := (Tryd.f9.body).getD .skip
abbrev n_spec_l01Told : Nat := 9
theorem fn_spec_l01Told : IsFn Tryd.prog 9 Tryd.f9 code9 := ⟨Tryd.func9, rfl, by kernel_rfl⟩
noncomputable def code10 : Code := (Tryd.f10.body).getD .skip
abbrev n_impl_isPath : Nat := 10
theorem fn_impl_isPath : IsFn Tryd.prog 10 Tryd.f10 code10 := ⟨Tryd.func10, rfl, by kernel_rfl⟩
noncomputable def code11 : Code := (Tryd.f11.body).getD .skip
abbrev n_impl_Point_plus : Nat := 11
theorem fn_impl_Point_plus : IsFn Tryd.prog 11 Tryd.f11 code11 := ⟨Tryd.func11, rfl, by kernel_rfl⟩
noncomputable def code12 : Code := (Tryd.f12.body).getD .skip
abbrev n_impl_Point_told : Nat := 12
theorem fn_impl_Point_told : IsFn Tryd.prog 12 Tryd.f12 code12 := ⟨Tryd.func12, rfl, by kernel_rfl⟩
noncomputable def code13 : Code := (Tryd.f13.body).getD .skip
abbrev n_spec_l01Fits : Nat := 13
theorem fn_spec_l01Fits : IsFn Tryd.prog 13 Tryd.f13 code13 := ⟨Tryd.func13, rfl, by kernel_rfl⟩
noncomputable def code14 : Code := (Tryd.f14.body).getD .skip
abbrev n_strings_Trim : Nat := 14
theorem fn_strings_Trim : IsFn Tryd.prog 14 Tryd.f14 code14 := ⟨Tryd.func14, rfl, by kernel_rfl⟩
noncomputable def code15 : Code := (Tryd.f15.body).getD .skip
abbrev n_impl_IsPoint : Nat := 15
theorem fn_impl_IsPoint : IsFn Tryd.prog 15 Tryd.f15 code15 := ⟨Tryd.func15, rfl, by kernel_rfl⟩
noncomputable def code16 : Code := (Tryd.f16.body).getD .skip
abbrev n_spec_l01In : Nat := 16
theorem fn_spec_l01In : IsFn Tryd.prog 16 Tryd.f16 code16 := ⟨Tryd.func16, rfl, by kernel_rfl⟩
noncomputable def code17 : Code := (Tryd.f17.body).getD .skip
abbrev n_strings_trimLeftByte : Nat := 17
theorem fn_strings_trimLeftByte : IsFn Tryd.prog 17 Tryd.f17 code17 := ⟨Tryd.func17, rfl, by kernel_rfl⟩
noncomputable def code18 : Code := (Tryd.f18.body).getD .skip
abbrev n_strings_trimRightByte : Nat := 18
theorem fn_strings_trimRightByte : IsFn Tryd.prog 18 Tryd.f18 code18 := ⟨Tryd.func18, rfl, by kernel_rfl⟩
noncomputable def code19 : Code := (Tryd.f19.body).getD .skip
abbrev n_strings_makeASCIISet : Nat := 19
theorem fn_strings_makeASCIISet : IsFn Tryd.prog 19 Tryd.f19 code19 := ⟨Tryd.func19, rfl, by kernel_rfl⟩
noncomputable def code20 : Code := (Tryd.f20.body).getD .skip
abbrev n_strings_trimLeftASCII : Nat := 20
theorem fn_strings_trimLeftASCII : IsFn Tryd.prog 20 Tryd.f20 code20 := ⟨Tryd.func20, rfl, by kernel_rfl⟩
noncomputable def code21 : Code := (Tryd.f21.body).getD .skip
abbrev n_strings_trimRightASCII : Nat := 21
theorem fn_strings_trimRightASCII : IsFn Tryd.prog 21 Tryd.f21 code21 := ⟨Tryd.func21, rfl, by kernel_rfl⟩
noncomputable def code22 : Code := (Tryd.f22.body).getD .skip
abbrev n_strings_trimLeftUnicode : Nat := 22
theorem fn_strings_trimLeftUnicode : IsFn Tryd.prog 22 Tryd.f22 code22 := ⟨Tryd.func22, rfl, by kernel_rfl⟩
noncomputable def code23 : Code := (Tryd.f23.body).getD .skip
abbrev n_strings_trimRightUnicode : Nat := 23
theorem fn_strings_trimRightUnicode : IsFn Tryd.prog 23 Tryd.f23 code23 := ⟨Tryd.func23, rfl, by kernel_rfl⟩
noncomputable def code24 : Code := (Tryd.f24.body).getD .skip
abbrev n_impl_isCoord : Nat := 24
theorem fn_impl_isCoord : IsFn Tryd.prog 24 Tryd.f24 code24 := ⟨Tryd.func24, rfl, by kernel_rfl⟩
noncomputable def code25 : Code := (Tryd.f25.body).getD .skip
abbrev n_strings_asciiSet_contains : Nat := 25
theorem fn_strings_asciiSet_contains : IsFn Tryd.prog 25 Tryd.f25 code25 := ⟨Tryd.func25, rfl, by kernel_rfl⟩
noncomputable def code26 : Code := (Tryd.f26.body).getD .skip
abbrev n_unicode_utf8_DecodeRuneInString : Nat := 26
theorem fn_unicode_utf8_DecodeRuneInString : IsFn Tryd.prog 26 Tryd.f26 code26 := ⟨Tryd.func26, rfl, by kernel_rfl⟩
noncomputable def code27 : Code := (Tryd.f27.body).getD .skip
abbrev n_strings_ContainsRune : Nat := 27
theorem fn_strings_ContainsRune : IsFn Tryd.prog 27 Tryd.f27 code27 := ⟨Tryd.func27, rfl, by kernel_rfl⟩
noncomputable def code28 : Code := (Tryd.f28.body).getD .skip
abbrev n_unicode_utf8_DecodeLastRuneInString : Nat := 28
theorem fn_unicode_utf8_DecodeLastRuneInString : IsFn Tryd.prog 28 Tryd.f28 code28 := ⟨Tryd.func28, rfl, by kernel_rfl⟩
noncomputable def code29 : Code := (Tryd.f29.body).getD .skip
abbrev n_impl_in : Nat := 29
theorem fn_impl_in : IsFn Tryd.prog 29 Tryd.f29 code29 := ⟨Tryd.func29, rfl, by kernel_rfl⟩
noncomputable def code30 : Code := (Tryd.f30.body).getD .skip
abbrev n_unicode_utf8_decodeRuneInStringSlow : Nat := 30
theorem fn_unicode_utf8_decodeRuneInStringSlow : IsFn Tryd.prog 30 Tryd.f30 code30 := ⟨Tryd.func30, rfl, by kernel_rfl⟩
noncomputable def code31 : Code := (Tryd.f31.body).getD .skip
abbrev n_strings_IndexRune : Nat := 31
theorem fn_strings_IndexRune : IsFn Tryd.prog 31 Tryd.f31 code31 := ⟨Tryd.func31, rfl, by kernel_rfl⟩
noncomputable def code32 : Code := (Tryd.f32.body).getD .skip
abbrev n_unicode_utf8_RuneStart : Nat := 32
theorem fn_unicode_utf8_RuneStart : IsFn Tryd.prog 32 Tryd.f32 code32 := ⟨Tryd.func32, rfl, by kernel_rfl⟩
noncomputable def code33 : Code := (Tryd.f33.body).getD .skip
abbrev n_strings_IndexByte : Nat := 33
theorem fn_strings_IndexByte : IsFn Tryd.prog 33 Tryd.f33 code33 := ⟨Tryd.func33, rfl, by kernel_rfl⟩
noncomputable def code34 : Code := (Tryd.f34.body).getD .skip
abbrev n_unicode_utf8_ValidRune : Nat := 34
theorem fn_unicode_utf8_ValidRune : IsFn Tryd.prog 34 Tryd.f34 code34 := ⟨Tryd.func34, rfl, by kernel_rfl⟩

end Go.Proofs.YtnjepaboecijcaaDoor
