/-
  The types of this translation, as the evaluator reads them; and what is known of each function's text.
  Conditions: none.
-/
import Derived.Test.YtlkbfpklhncfbaaGreatDoorEvUse
import Derived.Test.YtlkbfpklhncfbaaGreatDoorEvEqS
import Derived.Test.YtlkbfpklhncfbaaGreatDoorRows
import Derived.KernelRfl
set_option linter.unusedVariables false
set_option linter.unusedSimpArgs false
namespace Go.Proofs.YtlkbfpklhncfbaaGreatDoor
open Go.Ev Go.RowKit

def ti2 : TI := { t := 2, size := 1, zero := [.int .i64 0], sh := .int .i64, bytes := 8 }
def ti3 : TI := { t := 3, size := 1, zero := [.int .i64 0], sh := .int .i64, bytes := 8 }
def ti4 : TI := { t := 4, size := 1, zero := [.bool false], sh := .bool, bytes := 1 }
def ti5 : TI := { t := 5, size := 1, zero := [.int .u8 0], sh := .int .u8, bytes := 1 }
def ti9 : TI := { t := 9, size := 1, zero := [.string ⟨#[]⟩], sh := .string, bytes := 16 }
def ti21 : TI := { t := 21, size := 1, zero := [.int .i32 0], sh := .int .i32, bytes := 4 }
def ti22 : TI := { t := 22, size := 1, zero := [.slice none 0 0], sh := .slice 5 1, bytes := 24 }
def ti26 : TI := { t := 26, size := 1, zero := [.slice none 0 0], sh := .slice 2 1, bytes := 24 }
def ti32 : TI := { t := 32, size := 1, zero := [.slice none 0 0], sh := .slice 38 2, bytes := 24 }
def ti37 : TI := { t := 37, size := 2, zero := [.int .i64 0, .int .i64 0], sh := .arr 2 2 1 false, eqs := true, bytes := 16 }
def ti38 : TI := { t := 38, size := 2, zero := [.int .i64 0, .int .i64 0], sh := .arr 2 2 1 false, eqs := true, bytes := 16 }
def ti51 : TI := { t := 51, size := 4, zero := [.int .i64 0, .int .i64 0, .int .i64 0, .int .i64 0], sh := .arr 2 37 2 true, eqs := true, bytes := 32 }
def ti52 : TI := { t := 52, size := 4, zero := [.int .i64 0, .int .i64 0, .int .i64 0, .int .i64 0], sh := .arr 2 37 2 true, eqs := true, bytes := 32 }
def ti57 : TI := { t := 57, size := 1, zero := [.pointer none], sh := .cell, bytes := 8 }
def ti87 : TI := { t := 87, size := 1, zero := [.slice none 0 0], sh := .slice 9 1, bytes := 24 }
def ti101 : TI := { t := 101, size := 1, zero := [.int .u64 0], sh := .int .u64, bytes := 8 }
def ti102 : TI := { t := 102, size := 3, zero := [.slice none 0 0, .int .i64 0, .int .u64 0], sh := .str [(0, 1, false), (1, 1, false), (2, 1, false)], bytes := 40 }
def ti103 : TI := { t := 103, size := 3, zero := [.slice none 0 0, .int .i64 0, .int .u64 0], sh := .str [(0, 1, false), (1, 1, false), (2, 1, false)], bytes := 40 }
def ti108 : TI := { t := 108, size := 1, zero := [.int .u64 0], sh := .int .u64, bytes := 8 }
def ti119 : TI := { t := 119, size := 1, zero := [.int .i64 0], sh := .int .i64, bytes := 8 }
def ti122 : TI := { t := 122, size := 1, zero := [.pointer none], sh := .cell, bytes := 8 }
def ti125 : TI := { t := 125, size := 1, zero := [.pointer none], sh := .cell, bytes := 8 }
def ti126 : TI := { t := 126, size := 2, zero := [.pointer none, .slice none 0 0], sh := .str [(0, 1, false), (1, 1, false)], bytes := 32 }
def ti127 : TI := { t := 127, size := 2, zero := [.pointer none, .slice none 0 0], sh := .str [(0, 1, false), (1, 1, false)], bytes := 32 }
def ti139 : TI := { t := 139, size := 3, zero := [.string ⟨#[]⟩, .string ⟨#[]⟩, .nilIface], sh := .str [(0, 1, false), (1, 1, false), (2, 1, false)], bytes := 48 }
def ti140 : TI := { t := 140, size := 3, zero := [.string ⟨#[]⟩, .string ⟨#[]⟩, .nilIface], sh := .str [(0, 1, false), (1, 1, false), (2, 1, false)], bytes := 48 }
def ti143 : TI := { t := 143, size := 1, zero := [.pointer none], sh := .cell, bytes := 8 }
def ti147 : TI := { t := 147, size := 24, zero := [.int .u8 0, .int .u8 0, .int .u8 0, .int .u8 0, .int .u8 0, .int .u8 0, .int .u8 0, .int .u8 0, .int .u8 0, .int .u8 0, .int .u8 0, .int .u8 0, .int .u8 0, .int .u8 0, .int .u8 0, .int .u8 0, .int .u8 0, .int .u8 0, .int .u8 0, .int .u8 0, .int .u8 0, .int .u8 0, .int .u8 0, .int .u8 0], sh := .arr 24 5 1 false, bytes := 24 }
def ti152 : TI := { t := 152, size := 1, zero := [.int .u32 0], sh := .int .u32, bytes := 4 }
def ti155 : TI := { t := 155, size := 1, zero := [.pointer none], sh := .cell, bytes := 8 }
def ti156 : TI := { t := 156, size := 1, zero := [.string ⟨#[]⟩], sh := .str [(0, 1, false)], bytes := 16 }
def ti157 : TI := { t := 157, size := 1, zero := [.string ⟨#[]⟩], sh := .str [(0, 1, false)], bytes := 16 }
def ti162 : TI := { t := 162, size := 20, zero := [.int .u64 0, .int .u64 0, .int .u64 0, .int .u64 0, .int .u64 0, .int .u64 0, .int .u64 0, .int .u64 0, .int .u64 0, .int .u64 0, .int .u64 0, .int .u64 0, .int .u64 0, .int .u64 0, .int .u64 0, .int .u64 0, .int .u64 0, .int .u64 0, .int .u64 0, .int .u64 0], sh := .arr 20 101 1 false, bytes := 160 }
def ti163 : TI := { t := 163, size := 65, zero := [.int .u8 0, .int .u8 0, .int .u8 0, .int .u8 0, .int .u8 0, .int .u8 0, .int .u8 0, .int .u8 0, .int .u8 0, .int .u8 0, .int .u8 0, .int .u8 0, .int .u8 0, .int .u8 0, .int .u8 0, .int .u8 0, .int .u8 0, .int .u8 0, .int .u8 0, .int .u8 0, .int .u8 0, .int .u8 0, .int .u8 0, .int .u8 0, .int .u8 0, .int .u8 0, .int .u8 0, .int .u8 0, .int .u8 0, .int .u8 0, .int .u8 0, .int .u8 0, .int .u8 0, .int .u8 0, .int .u8 0, .int .u8 0, .int .u8 0, .int .u8 0, .int .u8 0, .int .u8 0, .int .u8 0, .int .u8 0, .int .u8 0, .int .u8 0, .int .u8 0, .int .u8 0, .int .u8 0, .int .u8 0, .int .u8 0, .int .u8 0, .int .u8 0, .int .u8 0, .int .u8 0, .int .u8 0, .int .u8 0, .int .u8 0, .int .u8 0, .int .u8 0, .int .u8 0, .int .u8 0, .int .u8 0, .int .u8 0, .int .u8 0, .int .u8 0, .int .u8 0], sh := .arr 65 5 1 false, bytes := 65 }
def ti167 : TI := { t := 167, size := 2, zero := [.int .u8 0, .int .u8 0], sh := .str [(0, 1, false), (1, 1, false)], bytes := 2 }
def ti168 : TI := { t := 168, size := 2, zero := [.int .u8 0, .int .u8 0], sh := .str [(0, 1, false), (1, 1, false)], bytes := 2 }
def ti169 : TI := { t := 169, size := 32, zero := [.int .u8 0, .int .u8 0, .int .u8 0, .int .u8 0, .int .u8 0, .int .u8 0, .int .u8 0, .int .u8 0, .int .u8 0, .int .u8 0, .int .u8 0, .int .u8 0, .int .u8 0, .int .u8 0, .int .u8 0, .int .u8 0, .int .u8 0, .int .u8 0, .int .u8 0, .int .u8 0, .int .u8 0, .int .u8 0, .int .u8 0, .int .u8 0, .int .u8 0, .int .u8 0, .int .u8 0, .int .u8 0, .int .u8 0, .int .u8 0, .int .u8 0, .int .u8 0], sh := .arr 16 168 2 true, bytes := 32 }
def ti171 : TI := { t := 171, size := 32, zero := [.int .u8 0, .int .u8 0, .int .u8 0, .int .u8 0, .int .u8 0, .int .u8 0, .int .u8 0, .int .u8 0, .int .u8 0, .int .u8 0, .int .u8 0, .int .u8 0, .int .u8 0, .int .u8 0, .int .u8 0, .int .u8 0, .int .u8 0, .int .u8 0, .int .u8 0, .int .u8 0, .int .u8 0, .int .u8 0, .int .u8 0, .int .u8 0, .int .u8 0, .int .u8 0, .int .u8 0, .int .u8 0, .int .u8 0, .int .u8 0, .int .u8 0, .int .u8 0], sh := .arr 32 5 1 false, bytes := 32 }
def ti172 : TI := { t := 172, size := 64, zero := [.int .u8 0, .int .u8 0, .int .u8 0, .int .u8 0, .int .u8 0, .int .u8 0, .int .u8 0, .int .u8 0, .int .u8 0, .int .u8 0, .int .u8 0, .int .u8 0, .int .u8 0, .int .u8 0, .int .u8 0, .int .u8 0, .int .u8 0, .int .u8 0, .int .u8 0, .int .u8 0, .int .u8 0, .int .u8 0, .int .u8 0, .int .u8 0, .int .u8 0, .int .u8 0, .int .u8 0, .int .u8 0, .int .u8 0, .int .u8 0, .int .u8 0, .int .u8 0, .int .u8 0, .int .u8 0, .int .u8 0, .int .u8 0, .int .u8 0, .int .u8 0, .int .u8 0, .int .u8 0, .int .u8 0, .int .u8 0, .int .u8 0, .int .u8 0, .int .u8 0, .int .u8 0, .int .u8 0, .int .u8 0, .int .u8 0, .int .u8 0, .int .u8 0, .int .u8 0, .int .u8 0, .int .u8 0, .int .u8 0, .int .u8 0, .int .u8 0, .int .u8 0, .int .u8 0, .int .u8 0, .int .u8 0, .int .u8 0, .int .u8 0, .int .u8 0], sh := .arr 64 5 1 false, bytes := 64 }
def ti173 : TI := { t := 173, size := 4, zero := [.pointer none, .pointer none, .pointer none, .string ⟨#[]⟩], sh := .str [(0, 1, false), (1, 1, false), (2, 1, false), (3, 1, false)], bytes := 40 }
def ti175 : TI := { t := 175, size := 0, zero := [], sh := .arr 0 16 1 false, bytes := 0 }
def ti176 : TI := { t := 176, size := 0, zero := [], sh := .str [(0, 0, true)], bytes := 0 }
def ti184 : TI := { t := 184, size := 11, zero := [.int .u64 0, .int .u64 0, .int .u32 0, .int .u8 0, .int .u8 0, .int .u8 0, .int .u8 0, .nilFunc, .pointer none, .int .i32 0, .int .i32 0], sh := .str [(0, 1, false), (1, 1, false), (2, 1, false), (3, 1, false), (4, 1, false), (5, 1, false), (6, 1, false), (7, 1, false), (8, 1, false), (9, 1, false), (10, 1, false)], bytes := 48 }

def tbl : Tbl := [ti2, ti3, ti4, ti5, ti9, ti21, ti22, ti26, ti32, ti37, ti38, ti51, ti52, ti57, ti87, ti101, ti102, ti103, ti108, ti119, ti122, ti125, ti126, ti127, ti139, ti140, ti143, ti147, ti152, ti155, ti156, ti157, ti162, ti163, ti167, ti168, ti169, ti171, ti172, ti173, ti175, ti176, ti184]

theorem ti2_ok : ti2.Ok Tryz.prog := ⟨by kernel_rfl, (show Tryz.prog.underlying 2 = some (.int .i64) by kernel_rfl), rfl, fun h => by cases h⟩
theorem ti3_ok : ti3.Ok Tryz.prog := ⟨by kernel_rfl, (show Tryz.prog.underlying 3 = some (.int .i64) by kernel_rfl), rfl, fun h => by cases h⟩
theorem ti4_ok : ti4.Ok Tryz.prog := ⟨by kernel_rfl, (show Tryz.prog.underlying 4 = some .bool by kernel_rfl), rfl, fun h => by cases h⟩
theorem ti5_ok : ti5.Ok Tryz.prog := ⟨by kernel_rfl, (show Tryz.prog.underlying 5 = some (.int .u8) by kernel_rfl), rfl, fun h => by cases h⟩
theorem ti9_ok : ti9.Ok Tryz.prog := ⟨by kernel_rfl, (show Tryz.prog.underlying 9 = some .string by kernel_rfl), rfl, fun h => by cases h⟩
theorem ti21_ok : ti21.Ok Tryz.prog := ⟨by kernel_rfl, (show Tryz.prog.underlying 21 = some (.int .i32) by kernel_rfl), rfl, fun h => by cases h⟩
theorem ti22_ok : ti22.Ok Tryz.prog := ⟨by kernel_rfl, ⟨by kernel_rfl, by kernel_rfl⟩, rfl, fun h => by cases h⟩
theorem ti26_ok : ti26.Ok Tryz.prog := ⟨by kernel_rfl, ⟨by kernel_rfl, by kernel_rfl⟩, rfl, fun h => by cases h⟩
theorem ti32_ok : ti32.Ok Tryz.prog := ⟨by kernel_rfl, ⟨by kernel_rfl, by kernel_rfl⟩, rfl, fun h => by cases h⟩
theorem ti37_ok : ti37.Ok Tryz.prog := ⟨by kernel_rfl, ⟨by kernel_rfl, by kernel_rfl, by kernel_rfl⟩, rfl, fun _ => eq_arr2 (e := 2) (by kernel_rfl) (by kernel_rfl) (by kernel_rfl) (by kernel_rfl)⟩
theorem ti38_ok : ti38.Ok Tryz.prog := ⟨by kernel_rfl, ⟨by kernel_rfl, by kernel_rfl, by kernel_rfl⟩, rfl, fun _ => eq_arr2 (e := 2) (by kernel_rfl) (by kernel_rfl) (by kernel_rfl) (by kernel_rfl)⟩
theorem ti51_ok : ti51.Ok Tryz.prog := ⟨by kernel_rfl, ⟨by kernel_rfl, by kernel_rfl, by kernel_rfl⟩, rfl, fun _ => eq_arr22 (e := 37) (f := 2) (by kernel_rfl) (by kernel_rfl) (by kernel_rfl) (by kernel_rfl) (by kernel_rfl) (by kernel_rfl)⟩
theorem ti52_ok : ti52.Ok Tryz.prog := ⟨by kernel_rfl, ⟨by kernel_rfl, by kernel_rfl, by kernel_rfl⟩, rfl, fun _ => eq_arr22 (e := 37) (f := 2) (by kernel_rfl) (by kernel_rfl) (by kernel_rfl) (by kernel_rfl) (by kernel_rfl) (by kernel_rfl)⟩
theorem ti57_ok : ti57.Ok Tryz.prog := ⟨by kernel_rfl, (show (Tryz.prog.underlying 57).map aggD = some false by kernel_rfl), rfl, fun h => by cases h⟩
theorem ti87_ok : ti87.Ok Tryz.prog := ⟨by kernel_rfl, ⟨by kernel_rfl, by kernel_rfl⟩, rfl, fun h => by cases h⟩
theorem ti101_ok : ti101.Ok Tryz.prog := ⟨by kernel_rfl, (show Tryz.prog.underlying 101 = some (.int .u64) by kernel_rfl), rfl, fun h => by cases h⟩
theorem ti102_ok : ti102.Ok Tryz.prog := ⟨by kernel_rfl, ⟨Tryz.prog.fieldsOf 102, by kernel_rfl, by kernel_rfl⟩, rfl, fun h => by cases h⟩
theorem ti103_ok : ti103.Ok Tryz.prog := ⟨by kernel_rfl, ⟨Tryz.prog.fieldsOf 103, by kernel_rfl, by kernel_rfl⟩, rfl, fun h => by cases h⟩
theorem ti108_ok : ti108.Ok Tryz.prog := ⟨by kernel_rfl, (show Tryz.prog.underlying 108 = some (.int .u64) by kernel_rfl), rfl, fun h => by cases h⟩
theorem ti119_ok : ti119.Ok Tryz.prog := ⟨by kernel_rfl, (show Tryz.prog.underlying 119 = some (.int .i64) by kernel_rfl), rfl, fun h => by cases h⟩
theorem ti122_ok : ti122.Ok Tryz.prog := ⟨by kernel_rfl, (show (Tryz.prog.underlying 122).map aggD = some false by kernel_rfl), rfl, fun h => by cases h⟩
theorem ti125_ok : ti125.Ok Tryz.prog := ⟨by kernel_rfl, (show (Tryz.prog.underlying 125).map aggD = some false by kernel_rfl), rfl, fun h => by cases h⟩
theorem ti126_ok : ti126.Ok Tryz.prog := ⟨by kernel_rfl, ⟨Tryz.prog.fieldsOf 126, by kernel_rfl, by kernel_rfl⟩, rfl, fun h => by cases h⟩
theorem ti127_ok : ti127.Ok Tryz.prog := ⟨by kernel_rfl, ⟨Tryz.prog.fieldsOf 127, by kernel_rfl, by kernel_rfl⟩, rfl, fun h => by cases h⟩
theorem ti139_ok : ti139.Ok Tryz.prog := ⟨by kernel_rfl, ⟨Tryz.prog.fieldsOf 139, by kernel_rfl, by kernel_rfl⟩, rfl, fun h => by cases h⟩
theorem ti140_ok : ti140.Ok Tryz.prog := ⟨by kernel_rfl, ⟨Tryz.prog.fieldsOf 140, by kernel_rfl, by kernel_rfl⟩, rfl, fun h => by cases h⟩
theorem ti143_ok : ti143.Ok Tryz.prog := ⟨by kernel_rfl, (show (Tryz.prog.underlying 143).map aggD = some false by kernel_rfl), rfl, fun h => by cases h⟩
theorem ti147_ok : ti147.Ok Tryz.prog := ⟨by kernel_rfl, ⟨by kernel_rfl, by kernel_rfl, by kernel_rfl⟩, rfl, fun h => by cases h⟩
theorem ti152_ok : ti152.Ok Tryz.prog := ⟨by kernel_rfl, (show Tryz.prog.underlying 152 = some (.int .u32) by kernel_rfl), rfl, fun h => by cases h⟩
theorem ti155_ok : ti155.Ok Tryz.prog := ⟨by kernel_rfl, (show (Tryz.prog.underlying 155).map aggD = some false by kernel_rfl), rfl, fun h => by cases h⟩
theorem ti156_ok : ti156.Ok Tryz.prog := ⟨by kernel_rfl, ⟨Tryz.prog.fieldsOf 156, by kernel_rfl, by kernel_rfl⟩, rfl, fun h => by cases h⟩
theorem ti157_ok : ti157.Ok Tryz.prog := ⟨by kernel_rfl, ⟨Tryz.prog.fieldsOf 157, by kernel_rfl, by kernel_rfl⟩, rfl, fun h => by cases h⟩
theorem ti162_ok : ti162.Ok Tryz.prog := ⟨by kernel_rfl, ⟨by kernel_rfl, by kernel_rfl, by kernel_rfl⟩, rfl, fun h => by cases h⟩
theorem ti163_ok : ti163.Ok Tryz.prog := ⟨by kernel_rfl, ⟨by kernel_rfl, by kernel_rfl, by kernel_rfl⟩, rfl, fun h => by cases h⟩
theorem ti167_ok : ti167.Ok Tryz.prog := ⟨by kernel_rfl, ⟨Tryz.prog.fieldsOf 167, by kernel_rfl, by kernel_rfl⟩, rfl, fun h => by cases h⟩
theorem ti168_ok : ti168.Ok Tryz.prog := ⟨by kernel_rfl, ⟨Tryz.prog.fieldsOf 168, by kernel_rfl, by kernel_rfl⟩, rfl, fun h => by cases h⟩
theorem ti169_ok : ti169.Ok Tryz.prog := ⟨by kernel_rfl, ⟨by kernel_rfl, by kernel_rfl, by kernel_rfl⟩, rfl, fun h => by cases h⟩
theorem ti171_ok : ti171.Ok Tryz.prog := ⟨by kernel_rfl, ⟨by kernel_rfl, by kernel_rfl, by kernel_rfl⟩, rfl, fun h => by cases h⟩
theorem ti172_ok : ti172.Ok Tryz.prog := ⟨by kernel_rfl, ⟨by kernel_rfl, by kernel_rfl, by kernel_rfl⟩, rfl, fun h => by cases h⟩
theorem ti173_ok : ti173.Ok Tryz.prog := ⟨by kernel_rfl, ⟨Tryz.prog.fieldsOf 173, by kernel_rfl, by kernel_rfl⟩, rfl, fun h => by cases h⟩
theorem ti175_ok : ti175.Ok Tryz.prog := ⟨by kernel_rfl, ⟨by kernel_rfl, by kernel_rfl, by kernel_rfl⟩, rfl, fun h => by cases h⟩
theorem ti176_ok : ti176.Ok Tryz.prog := ⟨by kernel_rfl, ⟨Tryz.prog.fieldsOf 176, by kernel_rfl, by kernel_rfl⟩, rfl, fun h => by cases h⟩
theorem ti184_ok : ti184.Ok Tryz.prog := ⟨by kernel_rfl, ⟨Tryz.prog.fieldsOf 184, by kernel_rfl, by kernel_rfl⟩, rfl, fun h => by cases h⟩
abbrev t_L_uint8 : Nat := 22
abbrev t_L_int64 : Nat := 26
abbrev t_L_impl_Point : Nat := 32
abbrev t_impl_Point : Nat := 38
abbrev t_impl_Matrix : Nat := 52
abbrev t_iter_Seq2_int64 : Nat := 64
abbrev t_error : Nat := 80
abbrev t_L_string : Nat := 87
abbrev t_spec_l01Source : Nat := 103
abbrev t_strings_Builder : Nat := 127
abbrev t_strconv_NumError : Nat := 140
abbrev t_errors_errorString : Nat := 157
abbrev t_unicode_utf8_acceptRange : Nat := 168

theorem tbl_ok : tbl.Ok Tryz.prog := by
  intro i hi
  simp only [tbl, List.mem_cons, List.not_mem_nil, or_false] at hi
  rcases hi with rfl | rfl | rfl | rfl | rfl | rfl | rfl | rfl | rfl | rfl | rfl | rfl | rfl | rfl | rfl | rfl | rfl | rfl | rfl | rfl | rfl | rfl | rfl | rfl | rfl | rfl | rfl | rfl | rfl | rfl | rfl | rfl | rfl | rfl | rfl | rfl | rfl | rfl | rfl | rfl | rfl | rfl | rfl
  all_goals first
    | exact ti2_ok
    | exact ti3_ok
    | exact ti4_ok
    | exact ti5_ok
    | exact ti9_ok
    | exact ti21_ok
    | exact ti22_ok
    | exact ti26_ok
    | exact ti32_ok
    | exact ti37_ok
    | exact ti38_ok
    | exact ti51_ok
    | exact ti52_ok
    | exact ti57_ok
    | exact ti87_ok
    | exact ti101_ok
    | exact ti102_ok
    | exact ti103_ok
    | exact ti108_ok
    | exact ti119_ok
    | exact ti122_ok
    | exact ti125_ok
    | exact ti126_ok
    | exact ti127_ok
    | exact ti139_ok
    | exact ti140_ok
    | exact ti143_ok
    | exact ti147_ok
    | exact ti152_ok
    | exact ti155_ok
    | exact ti156_ok
    | exact ti157_ok
    | exact ti162_ok
    | exact ti163_ok
    | exact ti167_ok
    | exact ti168_ok
    | exact ti169_ok
    | exact ti171_ok
    | exact ti172_ok
    | exact ti173_ok
    | exact ti175_ok
    | exact ti176_ok
    | exact ti184_ok

theorem good : EvGood Tryz.prog tbl := ⟨tbl_ok, by kernel_rfl⟩

noncomputable def code3 : Code := (Tryz.f3.body).getD .skip
abbrev n_laws_FnExpansions : Nat := 3
theorem fn_laws_FnExpansions : IsFn Tryz.prog 3 Tryz.f3 code3 := ⟨Tryz.func3, rfl, by kernel_rfl⟩
noncomputable def code4 : Code := (Tryz.f4.body).getD .skip
abbrev n_laws_big : Nat := 4
theorem fn_laws_big : IsFn Tryz.prog 4 Tryz.f4 code4 := ⟨Tryz.func4, rfl, by kernel_rfl⟩
noncomputable def code5 : Code := (Tryz.f5.body).getD .skip
abbrev n_spec_DrawExpandFraction : Nat := 5
theorem fn_spec_DrawExpandFraction : IsFn Tryz.prog 5 Tryz.f5 code5 := ⟨Tryz.func5, rfl, by kernel_rfl⟩
noncomputable def code6 : Code := (Tryz.f6.body).getD .skip
abbrev n_impl_ExpandFraction : Nat := 6
theorem fn_impl_ExpandFraction : IsFn Tryz.prog 6 Tryz.f6 code6 := ⟨Tryz.func6, rfl, by kernel_rfl⟩
noncomputable def code7 : Code := (Tryz.f7.body).getD .skip
abbrev n_spec_ExpandFraction : Nat := 7
theorem fn_spec_ExpandFraction : IsFn Tryz.prog 7 Tryz.f7 code7 := ⟨Tryz.func7, rfl, by kernel_rfl⟩
noncomputable def code8 : Code := (Tryz.f8.body).getD .skip
abbrev n_laws_likeInts : Nat := 8
theorem fn_laws_likeInts : IsFn Tryz.prog 8 Tryz.f8 code8 := ⟨Tryz.func8, rfl, by kernel_rfl⟩
noncomputable def code9 : Code := (Tryz.f9.body).getD .skip
abbrev n_impl_FractionOf : Nat := 9
theorem fn_impl_FractionOf : IsFn Tryz.prog 9 Tryz.f9 code9 := ⟨Tryz.func9, rfl, by kernel_rfl⟩
noncomputable def code10 : Code := (Tryz.f10.body).getD .skip
abbrev n_spec_DrawConvergentsOf : Nat := 10
theorem fn_spec_DrawConvergentsOf : IsFn Tryz.prog 10 Tryz.f10 code10 := ⟨Tryz.func10, rfl, by kernel_rfl⟩
noncomputable def code11 : Code := (Tryz.f11.body).getD .skip
abbrev n_impl_ConvergentsOf : Nat := 11
theorem fn_impl_ConvergentsOf : IsFn Tryz.prog 11 Tryz.f11 code11 := ⟨Tryz.func11, rfl, by kernel_rfl⟩
noncomputable def code12 : Code := (Tryz.f12.body).getD .skip
abbrev n_spec_ConvergentsOf : Nat := 12
theorem fn_spec_ConvergentsOf : IsFn Tryz.prog 12 Tryz.f12 code12 := ⟨Tryz.func12, rfl, by kernel_rfl⟩
noncomputable def code13 : Code := (Tryz.f13.body).getD .skip
abbrev n_laws_points5 : Nat := 13
theorem fn_laws_points5 : IsFn Tryz.prog 13 Tryz.f13 code13 := ⟨Tryz.func13, rfl, by kernel_rfl⟩
noncomputable def code14 : Code := (Tryz.f14.body).getD .skip
abbrev n_impl_DeterminantOf : Nat := 14
theorem fn_impl_DeterminantOf : IsFn Tryz.prog 14 Tryz.f14 code14 := ⟨Tryz.func14, rfl, by kernel_rfl⟩
noncomputable def code15 : Code := (Tryz.f15.body).getD .skip
abbrev n_spec_DrawFractionOf : Nat := 15
theorem fn_spec_DrawFractionOf : IsFn Tryz.prog 15 Tryz.f15 code15 := ⟨Tryz.func15, rfl, by kernel_rfl⟩
noncomputable def code16 : Code := (Tryz.f16.body).getD .skip
abbrev n_spec_FractionOf : Nat := 16
theorem fn_spec_FractionOf : IsFn Tryz.prog 16 Tryz.f16 code16 := ⟨Tryz.func16, rfl, by kernel_rfl⟩
noncomputable def code17 : Code := (Tryz.f17.body).getD .skip
abbrev n_spec_DrawPointText : Nat := 17
theorem fn_spec_DrawPointText : IsFn Tryz.prog 17 Tryz.f17 code17 := ⟨Tryz.func17, rfl, by kernel_rfl⟩
noncomputable def code18 : Code := (Tryz.f18.body).getD .skip
abbrev n_impl_PointText : Nat := 18
theorem fn_impl_PointText : IsFn Tryz.prog 18 Tryz.f18 code18 := ⟨Tryz.func18, rfl, by kernel_rfl⟩
noncomputable def code19 : Code := (Tryz.f19.body).getD .skip
abbrev n_spec_PointText : Nat := 19
theorem fn_spec_PointText : IsFn Tryz.prog 19 Tryz.f19 code19 := ⟨Tryz.func19, rfl, by kernel_rfl⟩
noncomputable def code20 : Code := (Tryz.f20.body).getD .skip
abbrev n_impl_ParsePoint : Nat := 20
theorem fn_impl_ParsePoint : IsFn Tryz.prog 20 Tryz.f20 code20 := ⟨Tryz.func20, rfl, by kernel_rfl⟩
noncomputable def code21 : Code := (Tryz.f21.body).getD .skip
abbrev n_spec_DrawPointsText : Nat := 21
theorem fn_spec_DrawPointsText : IsFn Tryz.prog 21 Tryz.f21 code21 := ⟨Tryz.func21, rfl, by kernel_rfl⟩
noncomputable def code22 : Code := (Tryz.f22.body).getD .skip
abbrev n_impl_PointsText : Nat := 22
theorem fn_impl_PointsText : IsFn Tryz.prog 22 Tryz.f22 code22 := ⟨Tryz.func22, rfl, by kernel_rfl⟩
noncomputable def code23 : Code := (Tryz.f23.body).getD .skip
abbrev n_spec_PointsText : Nat := 23
theorem fn_spec_PointsText : IsFn Tryz.prog 23 Tryz.f23 code23 := ⟨Tryz.func23, rfl, by kernel_rfl⟩
noncomputable def code24 : Code := (Tryz.f24.body).getD .skip
abbrev n_impl_ParsePoints : Nat := 24
theorem fn_impl_ParsePoints : IsFn Tryz.prog 24 Tryz.f24 code24 := ⟨Tryz.func24, rfl, by kernel_rfl⟩
noncomputable def code25 : Code := (Tryz.f25.body).getD .skip
abbrev n_spec_DrawParsePoint : Nat := 25
theorem fn_spec_DrawParsePoint : IsFn Tryz.prog 25 Tryz.f25 code25 := ⟨Tryz.func25, rfl, by kernel_rfl⟩
noncomputable def code26 : Code := (Tryz.f26.body).getD .skip
abbrev n_spec_ParsePoint : Nat := 26
theorem fn_spec_ParsePoint : IsFn Tryz.prog 26 Tryz.f26 code26 := ⟨Tryz.func26, rfl, by kernel_rfl⟩
noncomputable def code27 : Code := (Tryz.f27.body).getD .skip
abbrev n_spec_DrawParsePoints : Nat := 27
theorem fn_spec_DrawParsePoints : IsFn Tryz.prog 27 Tryz.f27 code27 := ⟨Tryz.func27, rfl, by kernel_rfl⟩
noncomputable def code28 : Code := (Tryz.f28.body).getD .skip
abbrev n_spec_ParsePoints : Nat := 28
theorem fn_spec_ParsePoints : IsFn Tryz.prog 28 Tryz.f28 code28 := ⟨Tryz.func28, rfl, by kernel_rfl⟩
noncomputable def code29 : Code := (Tryz.f29.body).getD .skip
abbrev n_spec_DrawDeterminantOf : Nat := 29
theorem fn_spec_DrawDeterminantOf : IsFn Tryz.prog 29 Tryz.f29 code29 := ⟨Tryz.func29, rfl, by kernel_rfl⟩
noncomputable def code30 : Code := (Tryz.f30.body).getD .skip
abbrev n_spec_DeterminantOf : Nat := 30
theorem fn_spec_DeterminantOf : IsFn Tryz.prog 30 Tryz.f30 code30 := ⟨Tryz.func30, rfl, by kernel_rfl⟩
noncomputable def code31 : Code := (Tryz.f31.body).getD .skip
abbrev n_spec_DrawDeterminantOfMatrix : Nat := 31
theorem fn_spec_DrawDeterminantOfMatrix : IsFn Tryz.prog 31 Tryz.f31 code31 := ⟨Tryz.func31, rfl, by kernel_rfl⟩
noncomputable def code32 : Code := (Tryz.f32.body).getD .skip
abbrev n_impl_DeterminantOfMatrix : Nat := 32
theorem fn_impl_DeterminantOfMatrix : IsFn Tryz.prog 32 Tryz.f32 code32 := ⟨Tryz.func32, rfl, by kernel_rfl⟩
noncomputable def code33 : Code := (Tryz.f33.body).getD .skip
abbrev n_spec_DeterminantOfMatrix : Nat := 33
theorem fn_spec_DeterminantOfMatrix : IsFn Tryz.prog 33 Tryz.f33 code33 := ⟨Tryz.func33, rfl, by kernel_rfl⟩
noncomputable def code34 : Code := (Tryz.f34.body).getD .skip
abbrev n_spec_DrawIsPoint : Nat := 34
theorem fn_spec_DrawIsPoint : IsFn Tryz.prog 34 Tryz.f34 code34 := ⟨Tryz.func34, rfl, by kernel_rfl⟩
noncomputable def code35 : Code := (Tryz.f35.body).getD .skip
abbrev n_impl_IsPoint : Nat := 35
theorem fn_impl_IsPoint : IsFn Tryz.prog 35 Tryz.f35 code35 := ⟨Tryz.func35, rfl, by kernel_rfl⟩
noncomputable def code36 : Code := (Tryz.f36.body).getD .skip
abbrev n_spec_IsPoint : Nat := 36
theorem fn_spec_IsPoint : IsFn Tryz.prog 36 Tryz.f36 code36 := ⟨Tryz.func36, rfl, by kernel_rfl⟩
noncomputable def code37 : Code := (Tryz.f37.body).getD .skip
abbrev n_spec_l01DrawFraction : Nat := 37
theorem fn_spec_l01DrawFraction : IsFn Tryz.prog 37 Tryz.f37 code37 := ⟨Tryz.func37, rfl, by kernel_rfl⟩
noncomputable def code38 : Code := (Tryz.f38.body).getD .skip
abbrev n_spec_l01From : Nat := 38
theorem fn_spec_l01From : IsFn Tryz.prog 38 Tryz.f38 code38 := ⟨Tryz.func38, rfl, by kernel_rfl⟩
noncomputable def code39 : Code := (Tryz.f39.body).getD .skip
abbrev n_impl_ratioOk : Nat := 39
theorem fn_impl_ratioOk : IsFn Tryz.prog 39 Tryz.f39 code39 := ⟨Tryz.func39, rfl, by kernel_rfl⟩
noncomputable def code40 : Code := (Tryz.f40.body).getD .skip
abbrev n_impl_expand : Nat := 40
theorem fn_impl_expand : IsFn Tryz.prog 40 Tryz.f40 code40 := ⟨Tryz.func40, rfl, by kernel_rfl⟩
noncomputable def code41 : Code := (Tryz.f41.body).getD .skip
abbrev n_spec_l01Fits : Nat := 41
theorem fn_spec_l01Fits : IsFn Tryz.prog 41 Tryz.f41 code41 := ⟨Tryz.func41, rfl, by kernel_rfl⟩
noncomputable def code42 : Code := (Tryz.f42.body).getD .skip
abbrev n_spec_l01In : Nat := 42
theorem fn_spec_l01In : IsFn Tryz.prog 42 Tryz.f42 code42 := ⟨Tryz.func42, rfl, by kernel_rfl⟩
noncomputable def code43 : Code := (Tryz.f43.body).getD .skip
abbrev n_spec_l01Expand : Nat := 43
theorem fn_spec_l01Expand : IsFn Tryz.prog 43 Tryz.f43 code43 := ⟨Tryz.func43, rfl, by kernel_rfl⟩
noncomputable def code44 : Code := (Tryz.f44.body).getD .skip
abbrev n_impl_in : Nat := 44
theorem fn_impl_in : IsFn Tryz.prog 44 Tryz.f44 code44 := ⟨Tryz.func44, rfl, by kernel_rfl⟩
noncomputable def code45 : Code := (Tryz.f45.body).getD .skip
abbrev n_impl_isCoord : Nat := 45
theorem fn_impl_isCoord : IsFn Tryz.prog 45 Tryz.f45 code45 := ⟨Tryz.func45, rfl, by kernel_rfl⟩
noncomputable def code46 : Code := (Tryz.f46.body).getD .skip
abbrev n_slices_Backward_int64 : Nat := 46
theorem fn_slices_Backward_int64 : IsFn Tryz.prog 46 Tryz.f46 code46 := ⟨Tryz.func46, rfl, by kernel_rfl⟩
noncomputable def code47 : Code := (Tryz.f47.body).getD .skip
abbrev n_impl_convergents : Nat := 47
theorem fn_impl_convergents : IsFn Tryz.prog 47 Tryz.f47 code47 := ⟨Tryz.func47, rfl, by kernel_rfl⟩
noncomputable def code48 : Code := (Tryz.f48.body).getD .skip
abbrev n_spec_l01Fold : Nat := 48
theorem fn_spec_l01Fold : IsFn Tryz.prog 48 Tryz.f48 code48 := ⟨Tryz.func48, rfl, by kernel_rfl⟩
noncomputable def code49 : Code := (Tryz.f49.body).getD .skip
abbrev n_impl_points : Nat := 49
theorem fn_impl_points : IsFn Tryz.prog 49 Tryz.f49 code49 := ⟨Tryz.func49, rfl, by kernel_rfl⟩
noncomputable def code50 : Code := (Tryz.f50.body).getD .skip
abbrev n_impl_det : Nat := 50
theorem fn_impl_det : IsFn Tryz.prog 50 Tryz.f50 code50 := ⟨Tryz.func50, rfl, by kernel_rfl⟩
noncomputable def code51 : Code := (Tryz.f51.body).getD .skip
abbrev n_spec_l01Next : Nat := 51
theorem fn_spec_l01Next : IsFn Tryz.prog 51 Tryz.f51 code51 := ⟨Tryz.func51, rfl, by kernel_rfl⟩
noncomputable def code52 : Code := (Tryz.f52.body).getD .skip
abbrev n_spec_l01Pick : Nat := 52
theorem fn_spec_l01Pick : IsFn Tryz.prog 52 Tryz.f52 code52 := ⟨Tryz.func52, rfl, by kernel_rfl⟩
noncomputable def code53 : Code := (Tryz.f53.body).getD .skip
abbrev n_spec_l01List : Nat := 53
theorem fn_spec_l01List : IsFn Tryz.prog 53 Tryz.f53 code53 := ⟨Tryz.func53, rfl, by kernel_rfl⟩
noncomputable def code54 : Code := (Tryz.f54.body).getD .skip
abbrev n_spec_l01Spoil : Nat := 54
theorem fn_spec_l01Spoil : IsFn Tryz.prog 54 Tryz.f54 code54 := ⟨Tryz.func54, rfl, by kernel_rfl⟩
noncomputable def code55 : Code := (Tryz.f55.body).getD .skip
abbrev n_impl_Point_text : Nat := 55
theorem fn_impl_Point_text : IsFn Tryz.prog 55 Tryz.f55 code55 := ⟨Tryz.func55, rfl, by kernel_rfl⟩
noncomputable def code56 : Code := (Tryz.f56.body).getD .skip
abbrev n_spec_l01Is : Nat := 56
theorem fn_spec_l01Is : IsFn Tryz.prog 56 Tryz.f56 code56 := ⟨Tryz.func56, rfl, by kernel_rfl⟩
noncomputable def code57 : Code := (Tryz.f57.body).getD .skip
abbrev n_spec_l01Text : Nat := 57
theorem fn_spec_l01Text : IsFn Tryz.prog 57 Tryz.f57 code57 := ⟨Tryz.func57, rfl, by kernel_rfl⟩
noncomputable def code58 : Code := (Tryz.f58.body).getD .skip
abbrev n_strings_Cut : Nat := 58
theorem fn_strings_Cut : IsFn Tryz.prog 58 Tryz.f58 code58 := ⟨Tryz.func58, rfl, by kernel_rfl⟩
noncomputable def code59 : Code := (Tryz.f59.body).getD .skip
abbrev n_strconv_ParseInt : Nat := 59
theorem fn_strconv_ParseInt : IsFn Tryz.prog 59 Tryz.f59 code59 := ⟨Tryz.func59, rfl, by kernel_rfl⟩
noncomputable def code60 : Code := (Tryz.f60.body).getD .skip
abbrev n_spec_l01DrawList : Nat := 60
theorem fn_spec_l01DrawList : IsFn Tryz.prog 60 Tryz.f60 code60 := ⟨Tryz.func60, rfl, by kernel_rfl⟩
noncomputable def code61 : Code := (Tryz.f61.body).getD .skip
abbrev n_spec_l01Bad : Nat := 61
theorem fn_spec_l01Bad : IsFn Tryz.prog 61 Tryz.f61 code61 := ⟨Tryz.func61, rfl, by kernel_rfl⟩
noncomputable def code62 : Code := (Tryz.f62.body).getD .skip
abbrev n_impl_texts : Nat := 62
theorem fn_impl_texts : IsFn Tryz.prog 62 Tryz.f62 code62 := ⟨Tryz.func62, rfl, by kernel_rfl⟩
noncomputable def code63 : Code := (Tryz.f63.body).getD .skip
abbrev n_spec_l01Points : Nat := 63
theorem fn_spec_l01Points : IsFn Tryz.prog 63 Tryz.f63 code63 := ⟨Tryz.func63, rfl, by kernel_rfl⟩
noncomputable def code64 : Code := (Tryz.f64.body).getD .skip
abbrev n_spec_l01ListText : Nat := 64
theorem fn_spec_l01ListText : IsFn Tryz.prog 64 Tryz.f64 code64 := ⟨Tryz.func64, rfl, by kernel_rfl⟩
noncomputable def code65 : Code := (Tryz.f65.body).getD .skip
abbrev n_strings_SplitN : Nat := 65
theorem fn_strings_SplitN : IsFn Tryz.prog 65 Tryz.f65 code65 := ⟨Tryz.func65, rfl, by kernel_rfl⟩
noncomputable def code66 : Code := (Tryz.f66.body).getD .skip
abbrev n_spec_l01DrawPoint : Nat := 66
theorem fn_spec_l01DrawPoint : IsFn Tryz.prog 66 Tryz.f66 code66 := ⟨Tryz.func66, rfl, by kernel_rfl⟩
noncomputable def code67 : Code := (Tryz.f67.body).getD .skip
abbrev n_spec_l01Size : Nat := 67
theorem fn_spec_l01Size : IsFn Tryz.prog 67 Tryz.f67 code67 := ⟨Tryz.func67, rfl, by kernel_rfl⟩
noncomputable def code68 : Code := (Tryz.f68.body).getD .skip
abbrev n_spec_l01Damage : Nat := 68
theorem fn_spec_l01Damage : IsFn Tryz.prog 68 Tryz.f68 code68 := ⟨Tryz.func68, rfl, by kernel_rfl⟩
noncomputable def code69 : Code := (Tryz.f69.body).getD .skip
abbrev n_spec_l01Read : Nat := 69
theorem fn_spec_l01Read : IsFn Tryz.prog 69 Tryz.f69 code69 := ⟨Tryz.func69, rfl, by kernel_rfl⟩
noncomputable def code70 : Code := (Tryz.f70.body).getD .skip
abbrev n_spec_l01ReadList : Nat := 70
theorem fn_spec_l01ReadList : IsFn Tryz.prog 70 Tryz.f70 code70 := ⟨Tryz.func70, rfl, by kernel_rfl⟩
noncomputable def code71 : Code := (Tryz.f71.body).getD .skip
abbrev n_spec_l01Code : Nat := 71
theorem fn_spec_l01Code : IsFn Tryz.prog 71 Tryz.f71 code71 := ⟨Tryz.func71, rfl, by kernel_rfl⟩
noncomputable def code72 : Code := (Tryz.f72.body).getD .skip
abbrev n_spec_l01Det : Nat := 72
theorem fn_spec_l01Det : IsFn Tryz.prog 72 Tryz.f72 code72 := ⟨Tryz.func72, rfl, by kernel_rfl⟩
noncomputable def code73 : Code := (Tryz.f73.body).getD .skip
abbrev n_spec_l01AnyMatrix : Nat := 73
theorem fn_spec_l01AnyMatrix : IsFn Tryz.prog 73 Tryz.f73 code73 := ⟨Tryz.func73, rfl, by kernel_rfl⟩
noncomputable def code74 : Code := (Tryz.f74.body).getD .skip
abbrev n_impl_IsMatrix : Nat := 74
theorem fn_impl_IsMatrix : IsFn Tryz.prog 74 Tryz.f74 code74 := ⟨Tryz.func74, rfl, by kernel_rfl⟩
noncomputable def code75 : Code := (Tryz.f75.body).getD .skip
abbrev n_impl_Matrix_det : Nat := 75
theorem fn_impl_Matrix_det : IsFn Tryz.prog 75 Tryz.f75 code75 := ⟨Tryz.func75, rfl, by kernel_rfl⟩
noncomputable def code76 : Code := (Tryz.f76.body).getD .skip
abbrev n_spec_l01Matrix : Nat := 76
theorem fn_spec_l01Matrix : IsFn Tryz.prog 76 Tryz.f76 code76 := ⟨Tryz.func76, rfl, by kernel_rfl⟩
noncomputable def code77 : Code := (Tryz.f77.body).getD .skip
abbrev n_spec_l01DetOf : Nat := 77
theorem fn_spec_l01DetOf : IsFn Tryz.prog 77 Tryz.f77 code77 := ⟨Tryz.func77, rfl, by kernel_rfl⟩
noncomputable def code78 : Code := (Tryz.f78.body).getD .skip
abbrev n_impl_floor : Nat := 78
theorem fn_impl_floor : IsFn Tryz.prog 78 Tryz.f78 code78 := ⟨Tryz.func78, rfl, by kernel_rfl⟩
noncomputable def code79 : Code := (Tryz.f79.body).getD .skip
abbrev n_spec_l01Floor : Nat := 79
theorem fn_spec_l01Floor : IsFn Tryz.prog 79 Tryz.f79 code79 := ⟨Tryz.func79, rfl, by kernel_rfl⟩
noncomputable def code80 : Code := (Tryz.f80.body).getD .skip
abbrev n_slices_Backward_int64_1 : Nat := 80
theorem fn_slices_Backward_int64_1 : IsFn Tryz.prog 80 Tryz.f80 code80 := ⟨Tryz.func80, rfl, by kernel_rfl⟩
noncomputable def code81 : Code := (Tryz.f81.body).getD .skip
abbrev n_impl_Point_plus : Nat := 81
theorem fn_impl_Point_plus : IsFn Tryz.prog 81 Tryz.f81 code81 := ⟨Tryz.func81, rfl, by kernel_rfl⟩
noncomputable def code82 : Code := (Tryz.f82.body).getD .skip
abbrev n_slices_ContainsFunc_Point : Nat := 82
theorem fn_slices_ContainsFunc_Point : IsFn Tryz.prog 82 Tryz.f82 code82 := ⟨Tryz.func82, rfl, by kernel_rfl⟩
noncomputable def code83 : Code := (Tryz.f83.body).getD .skip
abbrev n_impl_points_1 : Nat := 83
theorem fn_impl_points_1 : IsFn Tryz.prog 83 Tryz.f83 code83 := ⟨Tryz.func83, rfl, by kernel_rfl⟩
noncomputable def code84 : Code := (Tryz.f84.body).getD .skip
abbrev n_impl_decimal : Nat := 84
theorem fn_impl_decimal : IsFn Tryz.prog 84 Tryz.f84 code84 := ⟨Tryz.func84, rfl, by kernel_rfl⟩
noncomputable def code85 : Code := (Tryz.f85.body).getD .skip
abbrev n_spec_l01Dec : Nat := 85
theorem fn_spec_l01Dec : IsFn Tryz.prog 85 Tryz.f85 code85 := ⟨Tryz.func85, rfl, by kernel_rfl⟩
noncomputable def code88 : Code := (Tryz.f88.body).getD .skip
abbrev n_strconv_toError : Nat := 88
theorem fn_strconv_toError : IsFn Tryz.prog 88 Tryz.f88 code88 := ⟨Tryz.func88, rfl, by kernel_rfl⟩
noncomputable def code89 : Code := (Tryz.f89.body).getD .skip
abbrev n_strings_Join : Nat := 89
theorem fn_strings_Join : IsFn Tryz.prog 89 Tryz.f89 code89 := ⟨Tryz.func89, rfl, by kernel_rfl⟩
noncomputable def code90 : Code := (Tryz.f90.body).getD .skip
abbrev n_strings_genSplit : Nat := 90
theorem fn_strings_genSplit : IsFn Tryz.prog 90 Tryz.f90 code90 := ⟨Tryz.func90, rfl, by kernel_rfl⟩
noncomputable def code91 : Code := (Tryz.f91.body).getD .skip
abbrev n_spec_l01Split : Nat := 91
theorem fn_spec_l01Split : IsFn Tryz.prog 91 Tryz.f91 code91 := ⟨Tryz.func91, rfl, by kernel_rfl⟩
noncomputable def code92 : Code := (Tryz.f92.body).getD .skip
abbrev n_spec_l01Signed : Nat := 92
theorem fn_spec_l01Signed : IsFn Tryz.prog 92 Tryz.f92 code92 := ⟨Tryz.func92, rfl, by kernel_rfl⟩
noncomputable def code93 : Code := (Tryz.f93.body).getD .skip
abbrev n_spec_l01DrawUnit : Nat := 93
theorem fn_spec_l01DrawUnit : IsFn Tryz.prog 93 Tryz.f93 code93 := ⟨Tryz.func93, rfl, by kernel_rfl⟩
noncomputable def code94 : Code := (Tryz.f94.body).getD .skip
abbrev n_slices_IndexFunc_Point : Nat := 94
theorem fn_slices_IndexFunc_Point : IsFn Tryz.prog 94 Tryz.f94 code94 := ⟨Tryz.func94, rfl, by kernel_rfl⟩
noncomputable def code95 : Code := (Tryz.f95.body).getD .skip
abbrev n_strconv_FormatInt : Nat := 95
theorem fn_strconv_FormatInt : IsFn Tryz.prog 95 Tryz.f95 code95 := ⟨Tryz.func95, rfl, by kernel_rfl⟩
noncomputable def code98 : Code := (Tryz.f98.body).getD .skip
abbrev n_strconv_syntaxError : Nat := 98
theorem fn_strconv_syntaxError : IsFn Tryz.prog 98 Tryz.f98 code98 := ⟨Tryz.func98, rfl, by kernel_rfl⟩
noncomputable def code99 : Code := (Tryz.f99.body).getD .skip
abbrev n_strconv_rangeError : Nat := 99
theorem fn_strconv_rangeError : IsFn Tryz.prog 99 Tryz.f99 code99 := ⟨Tryz.func99, rfl, by kernel_rfl⟩
noncomputable def code100 : Code := (Tryz.f100.body).getD .skip
abbrev n_strconv_baseError : Nat := 100
theorem fn_strconv_baseError : IsFn Tryz.prog 100 Tryz.f100 code100 := ⟨Tryz.func100, rfl, by kernel_rfl⟩
noncomputable def code101 : Code := (Tryz.f101.body).getD .skip
abbrev n_strconv_bitSizeError : Nat := 101
theorem fn_strconv_bitSizeError : IsFn Tryz.prog 101 Tryz.f101 code101 := ⟨Tryz.func101, rfl, by kernel_rfl⟩
noncomputable def code102 : Code := (Tryz.f102.body).getD .skip
abbrev n_strings_Builder_Grow : Nat := 102
theorem fn_strings_Builder_Grow : IsFn Tryz.prog 102 Tryz.f102 code102 := ⟨Tryz.func102, rfl, by kernel_rfl⟩
noncomputable def code103 : Code := (Tryz.f103.body).getD .skip
abbrev n_strings_Builder_WriteString : Nat := 103
theorem fn_strings_Builder_WriteString : IsFn Tryz.prog 103 Tryz.f103 code103 := ⟨Tryz.func103, rfl, by kernel_rfl⟩
noncomputable def code104 : Code := (Tryz.f104.body).getD .skip
abbrev n_strings_Builder_String : Nat := 104
theorem fn_strings_Builder_String : IsFn Tryz.prog 104 Tryz.f104 code104 := ⟨Tryz.func104, rfl, by kernel_rfl⟩
noncomputable def code105 : Code := (Tryz.f105.body).getD .skip
abbrev n_strings_explode : Nat := 105
theorem fn_strings_explode : IsFn Tryz.prog 105 Tryz.f105 code105 := ⟨Tryz.func105, rfl, by kernel_rfl⟩
noncomputable def code106 : Code := (Tryz.f106.body).getD .skip
abbrev n_strings_Count : Nat := 106
theorem fn_strings_Count : IsFn Tryz.prog 106 Tryz.f106 code106 := ⟨Tryz.func106, rfl, by kernel_rfl⟩
noncomputable def code107 : Code := (Tryz.f107.body).getD .skip
abbrev n_strings_Index : Nat := 107
theorem fn_strings_Index : IsFn Tryz.prog 107 Tryz.f107 code107 := ⟨Tryz.func107, rfl, by kernel_rfl⟩
noncomputable def code108 : Code := (Tryz.f108.body).getD .skip
abbrev n_spec_l01Number : Nat := 108
theorem fn_spec_l01Number : IsFn Tryz.prog 108 Tryz.f108 code108 := ⟨Tryz.func108, rfl, by kernel_rfl⟩
noncomputable def code109 : Code := (Tryz.f109.body).getD .skip
abbrev n_spec_l01Times : Nat := 109
theorem fn_spec_l01Times : IsFn Tryz.prog 109 Tryz.f109 code109 := ⟨Tryz.func109, rfl, by kernel_rfl⟩
noncomputable def code118 : Code := (Tryz.f118.body).getD .skip
abbrev n_errors_New : Nat := 118
theorem fn_errors_New : IsFn Tryz.prog 118 Tryz.f118 code118 := ⟨Tryz.func118, rfl, by kernel_rfl⟩
noncomputable def code119 : Code := (Tryz.f119.body).getD .skip
abbrev n_strconv_Itoa : Nat := 119
theorem fn_strconv_Itoa : IsFn Tryz.prog 119 Tryz.f119 code119 := ⟨Tryz.func119, rfl, by kernel_rfl⟩
noncomputable def code120 : Code := (Tryz.f120.body).getD .skip
abbrev n_strings_Builder_copyCheck : Nat := 120
theorem fn_strings_Builder_copyCheck : IsFn Tryz.prog 120 Tryz.f120 code120 := ⟨Tryz.func120, rfl, by kernel_rfl⟩
noncomputable def code121 : Code := (Tryz.f121.body).getD .skip
abbrev n_strings_Builder_grow : Nat := 121
theorem fn_strings_Builder_grow : IsFn Tryz.prog 121 Tryz.f121 code121 := ⟨Tryz.func121, rfl, by kernel_rfl⟩
noncomputable def code122 : Code := (Tryz.f122.body).getD .skip
abbrev n_unicode_utf8_RuneCountInString : Nat := 122
theorem fn_unicode_utf8_RuneCountInString : IsFn Tryz.prog 122 Tryz.f122 code122 := ⟨Tryz.func122, rfl, by kernel_rfl⟩
noncomputable def code123 : Code := (Tryz.f123.body).getD .skip
abbrev n_unicode_utf8_DecodeRuneInString : Nat := 123
theorem fn_unicode_utf8_DecodeRuneInString : IsFn Tryz.prog 123 Tryz.f123 code123 := ⟨Tryz.func123, rfl, by kernel_rfl⟩
noncomputable def code134 : Code := (Tryz.f134.body).getD .skip
abbrev n_unicode_utf8_decodeRuneInStringSlow : Nat := 134
theorem fn_unicode_utf8_decodeRuneInStringSlow : IsFn Tryz.prog 134 Tryz.f134 code134 := ⟨Tryz.func134, rfl, by kernel_rfl⟩
noncomputable def code136 : Code := (Tryz.f136.body).getD .skip
abbrev n_math_bits_Len64 : Nat := 136
theorem fn_math_bits_Len64 : IsFn Tryz.prog 136 Tryz.f136 code136 := ⟨Tryz.func136, rfl, by kernel_rfl⟩
noncomputable def code139 : Code := (Tryz.f139.body).getD .skip
abbrev n_math_bits_TrailingZeros : Nat := 139
theorem fn_math_bits_TrailingZeros : IsFn Tryz.prog 139 Tryz.f139 code139 := ⟨Tryz.func139, rfl, by kernel_rfl⟩
noncomputable def code140 : Code := (Tryz.f140.body).getD .skip
abbrev n_math_bits_TrailingZeros32 : Nat := 140
theorem fn_math_bits_TrailingZeros32 : IsFn Tryz.prog 140 Tryz.f140 code140 := ⟨Tryz.func140, rfl, by kernel_rfl⟩
noncomputable def code141 : Code := (Tryz.f141.body).getD .skip
abbrev n_math_bits_TrailingZeros64 : Nat := 141
theorem fn_math_bits_TrailingZeros64 : IsFn Tryz.prog 141 Tryz.f141 code141 := ⟨Tryz.func141, rfl, by kernel_rfl⟩

end Go.Proofs.YtlkbfpklhncfbaaGreatDoor
