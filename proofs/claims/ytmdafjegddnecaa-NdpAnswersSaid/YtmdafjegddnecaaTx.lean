/- More of the table: facts on types, and which operations stand ahead of which. -/
import Derived.Test.YtmdafjegddnecaaTb
namespace Go.Proofs.Ytmdafjegddnecaa
open Go.Pm
set_option maxRecDepth 1000000
@[simp] theorem tb_sz40 : szOf Try.prog 40 = some 1 := by kernel_rfl
@[simp] theorem tb_ag40 : isAggT Try.prog 40 = some false := by kernel_rfl
@[simp] theorem tb_sl40 : isSl Try.prog 40 = none := by kernel_rfl
@[simp] theorem tb_ar40 : isArr Try.prog 40 = none := by kernel_rfl
@[simp] theorem tb_st40 : isStr Try.prog 40 = false := by kernel_rfl
@[simp] theorem tb_in40 : isInt Try.prog 40 = none := by kernel_rfl
@[simp] theorem tb_u840 : isU8 Try.prog 40 = false := by kernel_rfl
@[simp] theorem tb_bo40 : isBool Try.prog 40 = false := by kernel_rfl
@[simp] theorem tb_nk40 : nkT Try.prog 40 = none := by kernel_rfl
@[simp] theorem tb_by40 : (Try.prog.info? 40).map (·.bytes) = some 0 := by kernel_rfl
@[simp] theorem tb_un40 : (Try.prog.underlying 40).isSome = true := by kernel_rfl
@[simp] theorem tb_so40 : sizesOk Try.prog 40 = false := by kernel_rfl
@[simp] theorem tb_fk40 : flatK Try.prog 40 40 = none := by kernel_rfl
@[simp] theorem tb_eg40 : Try.prog.eqGuardType Try.prog.depth 40 = false := by kernel_rfl
@[simp] theorem tb_sz102 : szOf Try.prog 102 = some 1 := by kernel_rfl
@[simp] theorem tb_ag102 : isAggT Try.prog 102 = some false := by kernel_rfl
@[simp] theorem tb_sl102 : isSl Try.prog 102 = none := by kernel_rfl
@[simp] theorem tb_ar102 : isArr Try.prog 102 = none := by kernel_rfl
@[simp] theorem tb_st102 : isStr Try.prog 102 = false := by kernel_rfl
@[simp] theorem tb_in102 : isInt Try.prog 102 = none := by kernel_rfl
@[simp] theorem tb_u8102 : isU8 Try.prog 102 = false := by kernel_rfl
@[simp] theorem tb_bo102 : isBool Try.prog 102 = false := by kernel_rfl
@[simp] theorem tb_nk102 : nkT Try.prog 102 = none := by kernel_rfl
@[simp] theorem tb_by102 : (Try.prog.info? 102).map (·.bytes) = some 0 := by kernel_rfl
@[simp] theorem tb_un102 : (Try.prog.underlying 102).isSome = true := by kernel_rfl
@[simp] theorem tb_so102 : sizesOk Try.prog 102 = false := by kernel_rfl
@[simp] theorem tb_fk102 : flatK Try.prog 40 102 = none := by kernel_rfl
@[simp] theorem tb_eg102 : Try.prog.eqGuardType Try.prog.depth 102 = false := by kernel_rfl
@[simp] theorem dm_18_11 : Dm 18 11 = [0, 1, 3, 0, 8, 24, 63, 127, 255] := rfl
@[simp] theorem dm_18_15 : Dm 18 15 = [0, 0, 2, 6, 14, 30, 62, 127, 0, 256, 1023, 2047] := rfl
@[simp] theorem dm_20_5 : Dm 20 5 = [0, 1, 3, 3, 15, 31, 3, 67, 255, 511, 1023] := rfl
@[simp] theorem dm_54_2 : Dm 54 2 = [0, 0, 3] := rfl
@[simp] theorem dm_54_4 : Dm 54 4 = [0, 0, 3] := rfl
@[simp] theorem dm_54_5 : Dm 54 5 = [0, 0, 1, 7] := rfl
@[simp] theorem dm_124_4 : Dm 124 4 = [0, 0, 0, 6, 14, 31] := rfl
@[simp] theorem dm_125_24 : Dm 125 24 = [0, 0, 0, 4, 0, 28, 63, 127] := rfl
end Go.Proofs.Ytmdafjegddnecaa
