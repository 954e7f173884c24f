/- Facts on the seat's types, by the kernel; which operations stand ahead of which in the drawn regions. -/
import Derived.Test.YtfkneafghcndfaaQa
import Derived.Test.YtfkneafghcndfaaProg
namespace Go.Proofs.Ytfkneafghcndfaa
open Go.Pm
set_option maxRecDepth 1000000
@[simp] theorem tj_0 :
    szOf Try.prog 0 = some 1 ∧ isAggT Try.prog 0 = some false ∧ isSl Try.prog 0 = none ∧ isArr Try.prog 0 = none ∧ isStr Try.prog 0 = false ∧ isInt Try.prog 0 = none ∧ isU8 Try.prog 0 = false ∧ isBool Try.prog 0 = false ∧ nkT Try.prog 0 = none ∧ (Try.prog.info? 0).map (·.bytes) = some 0 ∧ (Try.prog.underlying 0).isSome = true ∧ sizesOk Try.prog 0 = false ∧ flatK Try.prog 40 0 = none ∧ Try.prog.eqGuardType Try.prog.depth 0 = false := by
  refine ⟨?_, ?_, ?_, ?_, ?_, ?_, ?_, ?_, ?_, ?_, ?_, ?_, ?_, ?_⟩ <;> kernel_rfl
@[simp] theorem tj_1 :
    szOf Try.prog 1 = some 1 ∧ isAggT Try.prog 1 = some false ∧ isSl Try.prog 1 = none ∧ isArr Try.prog 1 = none ∧ isStr Try.prog 1 = false ∧ isInt Try.prog 1 = none ∧ isU8 Try.prog 1 = false ∧ isBool Try.prog 1 = false ∧ nkT Try.prog 1 = some NK.func ∧ (Try.prog.info? 1).map (·.bytes) = some 8 ∧ (Try.prog.underlying 1).isSome = true ∧ sizesOk Try.prog 1 = false ∧ zeroOf Try.prog 1 = some [AV.v Value.nilFunc] ∧ flatK Try.prog 40 1 = none ∧ Try.prog.eqGuardType Try.prog.depth 1 = false := by
  refine ⟨?_, ?_, ?_, ?_, ?_, ?_, ?_, ?_, ?_, ?_, ?_, ?_, ?_, ?_, ?_⟩ <;> kernel_rfl
@[simp] theorem tj_2 :
    szOf Try.prog 2 = some 1 ∧ isAggT Try.prog 2 = some false ∧ isSl Try.prog 2 = none ∧ isArr Try.prog 2 = none ∧ isStr Try.prog 2 = false ∧ isInt Try.prog 2 = some IntKind.i64 ∧ isU8 Try.prog 2 = false ∧ isBool Try.prog 2 = false ∧ nkT Try.prog 2 = none ∧ (Try.prog.info? 2).map (·.bytes) = some 8 ∧ (Try.prog.underlying 2).isSome = true ∧ sizesOk Try.prog 2 = false ∧ zeroOf Try.prog 2 = some [AV.v (Value.int IntKind.i64 (Int.ofNat 0))] ∧ flatK Try.prog 40 2 = some [LK.int] ∧ Try.prog.eqGuardType Try.prog.depth 2 = false := by
  refine ⟨?_, ?_, ?_, ?_, ?_, ?_, ?_, ?_, ?_, ?_, ?_, ?_, ?_, ?_, ?_⟩ <;> kernel_rfl
@[simp] theorem tj_3 :
    szOf Try.prog 3 = some 1 ∧ isAggT Try.prog 3 = some false ∧ isSl Try.prog 3 = none ∧ isArr Try.prog 3 = none ∧ isStr Try.prog 3 = false ∧ isInt Try.prog 3 = some IntKind.i64 ∧ isU8 Try.prog 3 = false ∧ isBool Try.prog 3 = false ∧ nkT Try.prog 3 = none ∧ (Try.prog.info? 3).map (·.bytes) = some 8 ∧ (Try.prog.underlying 3).isSome = true ∧ sizesOk Try.prog 3 = false ∧ zeroOf Try.prog 3 = some [AV.v (Value.int IntKind.i64 (Int.ofNat 0))] ∧ flatK Try.prog 40 3 = some [LK.int] ∧ Try.prog.eqGuardType Try.prog.depth 3 = false := by
  refine ⟨?_, ?_, ?_, ?_, ?_, ?_, ?_, ?_, ?_, ?_, ?_, ?_, ?_, ?_, ?_⟩ <;> kernel_rfl
@[simp] theorem tj_4 :
    szOf Try.prog 4 = some 1 ∧ isAggT Try.prog 4 = some false ∧ isSl Try.prog 4 = none ∧ isArr Try.prog 4 = none ∧ isStr Try.prog 4 = false ∧ isInt Try.prog 4 = none ∧ isU8 Try.prog 4 = false ∧ isBool Try.prog 4 = true ∧ nkT Try.prog 4 = none ∧ (Try.prog.info? 4).map (·.bytes) = some 1 ∧ (Try.prog.underlying 4).isSome = true ∧ sizesOk Try.prog 4 = false ∧ zeroOf Try.prog 4 = some [AV.v (Value.bool false)] ∧ flatK Try.prog 40 4 = some [LK.bool] ∧ Try.prog.eqGuardType Try.prog.depth 4 = false := by
  refine ⟨?_, ?_, ?_, ?_, ?_, ?_, ?_, ?_, ?_, ?_, ?_, ?_, ?_, ?_, ?_⟩ <;> kernel_rfl
@[simp] theorem tj_5 :
    szOf Try.prog 5 = some 1 ∧ isAggT Try.prog 5 = some false ∧ isSl Try.prog 5 = none ∧ isArr Try.prog 5 = none ∧ isStr Try.prog 5 = false ∧ isInt Try.prog 5 = some IntKind.u8 ∧ isU8 Try.prog 5 = true ∧ isBool Try.prog 5 = false ∧ nkT Try.prog 5 = none ∧ (Try.prog.info? 5).map (·.bytes) = some 1 ∧ (Try.prog.underlying 5).isSome = true ∧ sizesOk Try.prog 5 = false ∧ zeroOf Try.prog 5 = some [AV.v (Value.int IntKind.u8 (Int.ofNat 0))] ∧ flatK Try.prog 40 5 = some [LK.int] ∧ Try.prog.eqGuardType Try.prog.depth 5 = false := by
  refine ⟨?_, ?_, ?_, ?_, ?_, ?_, ?_, ?_, ?_, ?_, ?_, ?_, ?_, ?_, ?_⟩ <;> kernel_rfl
@[simp] theorem tj_6 :
    szOf Try.prog 6 = some 1 ∧ isAggT Try.prog 6 = some false ∧ isSl Try.prog 6 = none ∧ isArr Try.prog 6 = none ∧ isStr Try.prog 6 = false ∧ isInt Try.prog 6 = some IntKind.u8 ∧ isU8 Try.prog 6 = true ∧ isBool Try.prog 6 = false ∧ nkT Try.prog 6 = none ∧ (Try.prog.info? 6).map (·.bytes) = some 1 ∧ (Try.prog.underlying 6).isSome = true ∧ sizesOk Try.prog 6 = false ∧ zeroOf Try.prog 6 = some [AV.v (Value.int IntKind.u8 (Int.ofNat 0))] ∧ flatK Try.prog 40 6 = some [LK.int] ∧ Try.prog.eqGuardType Try.prog.depth 6 = false := by
  refine ⟨?_, ?_, ?_, ?_, ?_, ?_, ?_, ?_, ?_, ?_, ?_, ?_, ?_, ?_, ?_⟩ <;> kernel_rfl
@[simp] theorem tj_7 :
    szOf Try.prog 7 = some 4 ∧ isAggT Try.prog 7 = some true ∧ isSl Try.prog 7 = none ∧ isArr Try.prog 7 = none ∧ isStr Try.prog 7 = false ∧ isInt Try.prog 7 = none ∧ isU8 Try.prog 7 = false ∧ isBool Try.prog 7 = false ∧ nkT Try.prog 7 = none ∧ (Try.prog.info? 7).map (·.bytes) = some 24 ∧ (Try.prog.underlying 7).isSome = true ∧ sizesOk Try.prog 7 = true ∧ zeroOf Try.prog 7 = some [AV.v (Value.int IntKind.i64 (Int.ofNat 0)), AV.v (Value.int IntKind.i64 (Int.ofNat 0)), AV.v (Value.bool false), AV.v (Value.int IntKind.u8 (Int.ofNat 0))] ∧ flatK Try.prog 40 7 = some [LK.int, LK.int, LK.bool, LK.int] ∧ Try.prog.eqGuardType Try.prog.depth 7 = false := by
  refine ⟨?_, ?_, ?_, ?_, ?_, ?_, ?_, ?_, ?_, ?_, ?_, ?_, ?_, ?_, ?_⟩ <;> kernel_rfl
@[simp] theorem tb_fd7_0 : fieldOf Try.prog 7 0 = some (0, 2) := by kernel_rfl
@[simp] theorem tb_fd7_1 : fieldOf Try.prog 7 1 = some (1, 3) := by kernel_rfl
@[simp] theorem tb_fd7_2 : fieldOf Try.prog 7 2 = some (2, 4) := by kernel_rfl
@[simp] theorem tb_fd7_3 : fieldOf Try.prog 7 3 = some (3, 6) := by kernel_rfl
@[simp] theorem tj_8 :
    szOf Try.prog 8 = some 4 ∧ isAggT Try.prog 8 = some true ∧ isSl Try.prog 8 = none ∧ isArr Try.prog 8 = none ∧ isStr Try.prog 8 = false ∧ isInt Try.prog 8 = none ∧ isU8 Try.prog 8 = false ∧ isBool Try.prog 8 = false ∧ nkT Try.prog 8 = none ∧ (Try.prog.info? 8).map (·.bytes) = some 24 ∧ (Try.prog.underlying 8).isSome = true ∧ sizesOk Try.prog 8 = true ∧ zeroOf Try.prog 8 = some [AV.v (Value.int IntKind.i64 (Int.ofNat 0)), AV.v (Value.int IntKind.i64 (Int.ofNat 0)), AV.v (Value.bool false), AV.v (Value.int IntKind.u8 (Int.ofNat 0))] ∧ flatK Try.prog 40 8 = some [LK.int, LK.int, LK.bool, LK.int] ∧ Try.prog.eqGuardType Try.prog.depth 8 = false := by
  refine ⟨?_, ?_, ?_, ?_, ?_, ?_, ?_, ?_, ?_, ?_, ?_, ?_, ?_, ?_, ?_⟩ <;> kernel_rfl
@[simp] theorem tb_fd8_0 : fieldOf Try.prog 8 0 = some (0, 2) := by kernel_rfl
@[simp] theorem tb_fd8_1 : fieldOf Try.prog 8 1 = some (1, 3) := by kernel_rfl
@[simp] theorem tb_fd8_2 : fieldOf Try.prog 8 2 = some (2, 4) := by kernel_rfl
@[simp] theorem tb_fd8_3 : fieldOf Try.prog 8 3 = some (3, 6) := by kernel_rfl
@[simp] theorem tj_9 :
    szOf Try.prog 9 = some 1 ∧ isAggT Try.prog 9 = some false ∧ isSl Try.prog 9 = none ∧ isArr Try.prog 9 = none ∧ isStr Try.prog 9 = true ∧ isInt Try.prog 9 = none ∧ isU8 Try.prog 9 = false ∧ isBool Try.prog 9 = false ∧ nkT Try.prog 9 = none ∧ (Try.prog.info? 9).map (·.bytes) = some 16 ∧ (Try.prog.underlying 9).isSome = true ∧ sizesOk Try.prog 9 = false ∧ zeroOf Try.prog 9 = some [AV.v (Value.string { data := #[] })] ∧ flatK Try.prog 40 9 = some [LK.str] ∧ Try.prog.eqGuardType Try.prog.depth 9 = false := by
  refine ⟨?_, ?_, ?_, ?_, ?_, ?_, ?_, ?_, ?_, ?_, ?_, ?_, ?_, ?_, ?_⟩ <;> kernel_rfl
theorem tb_kt9 : ktOf Try.prog 9 = some (false, [KT.str]) := by kernel_rfl
@[simp] theorem tb_kb9 (v : Value) : keyB (ktOf Try.prog 9) v = keyB (some (false, [KT.str])) v := by rw [tb_kt9]
@[simp] theorem tj_10 :
    szOf Try.prog 10 = some 1 ∧ isAggT Try.prog 10 = some false ∧ isSl Try.prog 10 = none ∧ isArr Try.prog 10 = none ∧ isStr Try.prog 10 = true ∧ isInt Try.prog 10 = none ∧ isU8 Try.prog 10 = false ∧ isBool Try.prog 10 = false ∧ nkT Try.prog 10 = none ∧ (Try.prog.info? 10).map (·.bytes) = some 16 ∧ (Try.prog.underlying 10).isSome = true ∧ sizesOk Try.prog 10 = false ∧ zeroOf Try.prog 10 = some [AV.v (Value.string { data := #[] })] ∧ flatK Try.prog 40 10 = some [LK.str] ∧ Try.prog.eqGuardType Try.prog.depth 10 = false := by
  refine ⟨?_, ?_, ?_, ?_, ?_, ?_, ?_, ?_, ?_, ?_, ?_, ?_, ?_, ?_, ?_⟩ <;> kernel_rfl
@[simp] theorem tj_11 :
    szOf Try.prog 11 = some 1 ∧ isAggT Try.prog 11 = some false ∧ isSl Try.prog 11 = none ∧ isArr Try.prog 11 = none ∧ isStr Try.prog 11 = true ∧ isInt Try.prog 11 = none ∧ isU8 Try.prog 11 = false ∧ isBool Try.prog 11 = false ∧ nkT Try.prog 11 = none ∧ (Try.prog.info? 11).map (·.bytes) = some 16 ∧ (Try.prog.underlying 11).isSome = true ∧ sizesOk Try.prog 11 = false ∧ zeroOf Try.prog 11 = some [AV.v (Value.string { data := #[] })] ∧ flatK Try.prog 40 11 = some [LK.str] ∧ Try.prog.eqGuardType Try.prog.depth 11 = false := by
  refine ⟨?_, ?_, ?_, ?_, ?_, ?_, ?_, ?_, ?_, ?_, ?_, ?_, ?_, ?_, ?_⟩ <;> kernel_rfl
@[simp] theorem tj_12 :
    szOf Try.prog 12 = some 1 ∧ isAggT Try.prog 12 = some false ∧ isSl Try.prog 12 = none ∧ isArr Try.prog 12 = none ∧ isStr Try.prog 12 = false ∧ isInt Try.prog 12 = some IntKind.u64 ∧ isU8 Try.prog 12 = false ∧ isBool Try.prog 12 = false ∧ nkT Try.prog 12 = none ∧ (Try.prog.info? 12).map (·.bytes) = some 8 ∧ (Try.prog.underlying 12).isSome = true ∧ sizesOk Try.prog 12 = false ∧ zeroOf Try.prog 12 = some [AV.v (Value.int IntKind.u64 (Int.ofNat 0))] ∧ flatK Try.prog 40 12 = some [LK.int] ∧ Try.prog.eqGuardType Try.prog.depth 12 = false := by
  refine ⟨?_, ?_, ?_, ?_, ?_, ?_, ?_, ?_, ?_, ?_, ?_, ?_, ?_, ?_, ?_⟩ <;> kernel_rfl
@[simp] theorem tj_13 :
    szOf Try.prog 13 = some 2 ∧ isAggT Try.prog 13 = some true ∧ isSl Try.prog 13 = none ∧ isArr Try.prog 13 = none ∧ isStr Try.prog 13 = false ∧ isInt Try.prog 13 = none ∧ isU8 Try.prog 13 = false ∧ isBool Try.prog 13 = false ∧ nkT Try.prog 13 = none ∧ (Try.prog.info? 13).map (·.bytes) = some 24 ∧ (Try.prog.underlying 13).isSome = true ∧ sizesOk Try.prog 13 = true ∧ zeroOf Try.prog 13 = some [AV.v (Value.string { data := #[] }), AV.v (Value.int IntKind.u64 (Int.ofNat 0))] ∧ flatK Try.prog 40 13 = none ∧ Try.prog.eqGuardType Try.prog.depth 13 = false := by
  refine ⟨?_, ?_, ?_, ?_, ?_, ?_, ?_, ?_, ?_, ?_, ?_, ?_, ?_, ?_, ?_⟩ <;> kernel_rfl
@[simp] theorem tb_fd13_0 : fieldOf Try.prog 13 0 = some (0, 9) := by kernel_rfl
@[simp] theorem tb_fd13_1 : fieldOf Try.prog 13 1 = some (1, 12) := by kernel_rfl
@[simp] theorem tj_14 :
    szOf Try.prog 14 = some 2 ∧ isAggT Try.prog 14 = some true ∧ isSl Try.prog 14 = none ∧ isArr Try.prog 14 = none ∧ isStr Try.prog 14 = false ∧ isInt Try.prog 14 = none ∧ isU8 Try.prog 14 = false ∧ isBool Try.prog 14 = false ∧ nkT Try.prog 14 = none ∧ (Try.prog.info? 14).map (·.bytes) = some 24 ∧ (Try.prog.underlying 14).isSome = true ∧ sizesOk Try.prog 14 = true ∧ zeroOf Try.prog 14 = some [AV.v (Value.string { data := #[] }), AV.v (Value.int IntKind.u64 (Int.ofNat 0))] ∧ flatK Try.prog 40 14 = none ∧ Try.prog.eqGuardType Try.prog.depth 14 = false := by
  refine ⟨?_, ?_, ?_, ?_, ?_, ?_, ?_, ?_, ?_, ?_, ?_, ?_, ?_, ?_, ?_⟩ <;> kernel_rfl
@[simp] theorem tb_fd14_0 : fieldOf Try.prog 14 0 = some (0, 9) := by kernel_rfl
@[simp] theorem tb_fd14_1 : fieldOf Try.prog 14 1 = some (1, 12) := by kernel_rfl
@[simp] theorem tj_15 :
    szOf Try.prog 15 = some 1 ∧ isAggT Try.prog 15 = some false ∧ isSl Try.prog 15 = none ∧ isArr Try.prog 15 = none ∧ isStr Try.prog 15 = false ∧ isInt Try.prog 15 = none ∧ isU8 Try.prog 15 = false ∧ isBool Try.prog 15 = false ∧ nkT Try.prog 15 = some NK.ptr ∧ (Try.prog.info? 15).map (·.bytes) = some 8 ∧ (Try.prog.underlying 15).isSome = true ∧ sizesOk Try.prog 15 = false ∧ zeroOf Try.prog 15 = some [AV.v (Value.pointer none)] ∧ flatK Try.prog 40 15 = none ∧ Try.prog.eqGuardType Try.prog.depth 15 = false := by
  refine ⟨?_, ?_, ?_, ?_, ?_, ?_, ?_, ?_, ?_, ?_, ?_, ?_, ?_, ?_, ?_⟩ <;> kernel_rfl
@[simp] theorem tj_16 :
    szOf Try.prog 16 = some 1 ∧ isAggT Try.prog 16 = some false ∧ isSl Try.prog 16 = none ∧ isArr Try.prog 16 = none ∧ isStr Try.prog 16 = false ∧ isInt Try.prog 16 = none ∧ isU8 Try.prog 16 = false ∧ isBool Try.prog 16 = false ∧ nkT Try.prog 16 = some NK.ptr ∧ (Try.prog.info? 16).map (·.bytes) = some 8 ∧ (Try.prog.underlying 16).isSome = true ∧ sizesOk Try.prog 16 = false ∧ zeroOf Try.prog 16 = some [AV.v (Value.pointer none)] ∧ flatK Try.prog 40 16 = none ∧ Try.prog.eqGuardType Try.prog.depth 16 = false := by
  refine ⟨?_, ?_, ?_, ?_, ?_, ?_, ?_, ?_, ?_, ?_, ?_, ?_, ?_, ?_, ?_⟩ <;> kernel_rfl
@[simp] theorem tj_17 :
    szOf Try.prog 17 = some 1 ∧ isAggT Try.prog 17 = some false ∧ isSl Try.prog 17 = none ∧ isArr Try.prog 17 = none ∧ isStr Try.prog 17 = false ∧ isInt Try.prog 17 = none ∧ isU8 Try.prog 17 = false ∧ isBool Try.prog 17 = false ∧ nkT Try.prog 17 = some NK.ptr ∧ (Try.prog.info? 17).map (·.bytes) = some 8 ∧ (Try.prog.underlying 17).isSome = true ∧ sizesOk Try.prog 17 = false ∧ zeroOf Try.prog 17 = some [AV.v (Value.pointer none)] ∧ flatK Try.prog 40 17 = none ∧ Try.prog.eqGuardType Try.prog.depth 17 = false := by
  refine ⟨?_, ?_, ?_, ?_, ?_, ?_, ?_, ?_, ?_, ?_, ?_, ?_, ?_, ?_, ?_⟩ <;> kernel_rfl
@[simp] theorem tj_18 :
    szOf Try.prog 18 = some 1 ∧ isAggT Try.prog 18 = some true ∧ isSl Try.prog 18 = none ∧ isArr Try.prog 18 = none ∧ isStr Try.prog 18 = false ∧ isInt Try.prog 18 = none ∧ isU8 Try.prog 18 = false ∧ isBool Try.prog 18 = false ∧ nkT Try.prog 18 = none ∧ (Try.prog.info? 18).map (·.bytes) = some 8 ∧ (Try.prog.underlying 18).isSome = true ∧ sizesOk Try.prog 18 = true ∧ zeroOf Try.prog 18 = some [AV.v (Value.pointer none)] ∧ flatK Try.prog 40 18 = none ∧ Try.prog.eqGuardType Try.prog.depth 18 = false := by
  refine ⟨?_, ?_, ?_, ?_, ?_, ?_, ?_, ?_, ?_, ?_, ?_, ?_, ?_, ?_, ?_⟩ <;> kernel_rfl
@[simp] theorem tb_fd18_0 : fieldOf Try.prog 18 0 = some (0, 17) := by kernel_rfl
@[simp] theorem tj_19 :
    szOf Try.prog 19 = some 1 ∧ isAggT Try.prog 19 = some true ∧ isSl Try.prog 19 = none ∧ isArr Try.prog 19 = none ∧ isStr Try.prog 19 = false ∧ isInt Try.prog 19 = none ∧ isU8 Try.prog 19 = false ∧ isBool Try.prog 19 = false ∧ nkT Try.prog 19 = none ∧ (Try.prog.info? 19).map (·.bytes) = some 8 ∧ (Try.prog.underlying 19).isSome = true ∧ sizesOk Try.prog 19 = true ∧ zeroOf Try.prog 19 = some [AV.v (Value.pointer none)] ∧ flatK Try.prog 40 19 = none ∧ Try.prog.eqGuardType Try.prog.depth 19 = false := by
  refine ⟨?_, ?_, ?_, ?_, ?_, ?_, ?_, ?_, ?_, ?_, ?_, ?_, ?_, ?_, ?_⟩ <;> kernel_rfl
@[simp] theorem tb_fd19_0 : fieldOf Try.prog 19 0 = some (0, 17) := by kernel_rfl
@[simp] theorem tj_20 :
    szOf Try.prog 20 = some 1 ∧ isAggT Try.prog 20 = some false ∧ isSl Try.prog 20 = none ∧ isArr Try.prog 20 = none ∧ isStr Try.prog 20 = false ∧ isInt Try.prog 20 = none ∧ isU8 Try.prog 20 = false ∧ isBool Try.prog 20 = false ∧ nkT Try.prog 20 = none ∧ (Try.prog.info? 20).map (·.bytes) = some 16 ∧ (Try.prog.underlying 20).isSome = true ∧ sizesOk Try.prog 20 = false ∧ zeroOf Try.prog 20 = some [AV.v Value.nilIface] ∧ flatK Try.prog 40 20 = none ∧ Try.prog.eqGuardType Try.prog.depth 20 = false := by
  refine ⟨?_, ?_, ?_, ?_, ?_, ?_, ?_, ?_, ?_, ?_, ?_, ?_, ?_, ?_, ?_⟩ <;> kernel_rfl
@[simp] theorem tj_21 :
    szOf Try.prog 21 = some 1 ∧ isAggT Try.prog 21 = some false ∧ isSl Try.prog 21 = none ∧ isArr Try.prog 21 = none ∧ isStr Try.prog 21 = false ∧ isInt Try.prog 21 = some IntKind.i32 ∧ isU8 Try.prog 21 = false ∧ isBool Try.prog 21 = false ∧ nkT Try.prog 21 = none ∧ (Try.prog.info? 21).map (·.bytes) = some 4 ∧ (Try.prog.underlying 21).isSome = true ∧ sizesOk Try.prog 21 = false ∧ zeroOf Try.prog 21 = some [AV.v (Value.int IntKind.i32 (Int.ofNat 0))] ∧ flatK Try.prog 40 21 = some [LK.int] ∧ Try.prog.eqGuardType Try.prog.depth 21 = false := by
  refine ⟨?_, ?_, ?_, ?_, ?_, ?_, ?_, ?_, ?_, ?_, ?_, ?_, ?_, ?_, ?_⟩ <;> kernel_rfl
@[simp] theorem tj_22 :
    szOf Try.prog 22 = some 1 ∧ isAggT Try.prog 22 = some false ∧ isSl Try.prog 22 = none ∧ isArr Try.prog 22 = none ∧ isStr Try.prog 22 = false ∧ isInt Try.prog 22 = some IntKind.u32 ∧ isU8 Try.prog 22 = false ∧ isBool Try.prog 22 = false ∧ nkT Try.prog 22 = none ∧ (Try.prog.info? 22).map (·.bytes) = some 4 ∧ (Try.prog.underlying 22).isSome = true ∧ sizesOk Try.prog 22 = false ∧ zeroOf Try.prog 22 = some [AV.v (Value.int IntKind.u32 (Int.ofNat 0))] ∧ flatK Try.prog 40 22 = some [LK.int] ∧ Try.prog.eqGuardType Try.prog.depth 22 = false := by
  refine ⟨?_, ?_, ?_, ?_, ?_, ?_, ?_, ?_, ?_, ?_, ?_, ?_, ?_, ?_, ?_⟩ <;> kernel_rfl
@[simp] theorem tj_23 :
    szOf Try.prog 23 = some 1 ∧ isAggT Try.prog 23 = some false ∧ isSl Try.prog 23 = some 5 ∧ isArr Try.prog 23 = none ∧ isStr Try.prog 23 = false ∧ isInt Try.prog 23 = none ∧ isU8 Try.prog 23 = false ∧ isBool Try.prog 23 = false ∧ nkT Try.prog 23 = some NK.slice ∧ (Try.prog.info? 23).map (·.bytes) = some 24 ∧ (Try.prog.underlying 23).isSome = true ∧ sizesOk Try.prog 23 = false ∧ zeroOf Try.prog 23 = some [AV.v (Value.slice none 0 0)] ∧ flatK Try.prog 40 23 = none ∧ Try.prog.eqGuardType Try.prog.depth 23 = false := by
  refine ⟨?_, ?_, ?_, ?_, ?_, ?_, ?_, ?_, ?_, ?_, ?_, ?_, ?_, ?_, ?_⟩ <;> kernel_rfl
@[simp] theorem tj_24 :
    szOf Try.prog 24 = some 1 ∧ isAggT Try.prog 24 = some false ∧ isSl Try.prog 24 = none ∧ isArr Try.prog 24 = none ∧ isStr Try.prog 24 = false ∧ isInt Try.prog 24 = none ∧ isU8 Try.prog 24 = false ∧ isBool Try.prog 24 = false ∧ nkT Try.prog 24 = some NK.ptr ∧ (Try.prog.info? 24).map (·.bytes) = some 8 ∧ (Try.prog.underlying 24).isSome = true ∧ sizesOk Try.prog 24 = false ∧ zeroOf Try.prog 24 = some [AV.v (Value.pointer none)] ∧ flatK Try.prog 40 24 = none ∧ Try.prog.eqGuardType Try.prog.depth 24 = false := by
  refine ⟨?_, ?_, ?_, ?_, ?_, ?_, ?_, ?_, ?_, ?_, ?_, ?_, ?_, ?_, ?_⟩ <;> kernel_rfl
@[simp] theorem tj_25 :
    szOf Try.prog 25 = some 1 ∧ isAggT Try.prog 25 = some false ∧ isSl Try.prog 25 = none ∧ isArr Try.prog 25 = none ∧ isStr Try.prog 25 = false ∧ isInt Try.prog 25 = some IntKind.i64 ∧ isU8 Try.prog 25 = false ∧ isBool Try.prog 25 = false ∧ nkT Try.prog 25 = none ∧ (Try.prog.info? 25).map (·.bytes) = some 8 ∧ (Try.prog.underlying 25).isSome = true ∧ sizesOk Try.prog 25 = false ∧ zeroOf Try.prog 25 = some [AV.v (Value.int IntKind.i64 (Int.ofNat 0))] ∧ flatK Try.prog 40 25 = some [LK.int] ∧ Try.prog.eqGuardType Try.prog.depth 25 = false := by
  refine ⟨?_, ?_, ?_, ?_, ?_, ?_, ?_, ?_, ?_, ?_, ?_, ?_, ?_, ?_, ?_⟩ <;> kernel_rfl
@[simp] theorem tj_26 :
    szOf Try.prog 26 = some 1 ∧ isAggT Try.prog 26 = some false ∧ isSl Try.prog 26 = none ∧ isArr Try.prog 26 = none ∧ isStr Try.prog 26 = false ∧ isInt Try.prog 26 = none ∧ isU8 Try.prog 26 = false ∧ isBool Try.prog 26 = false ∧ nkT Try.prog 26 = none ∧ (Try.prog.info? 26).map (·.bytes) = some 0 ∧ (Try.prog.underlying 26).isSome = true ∧ sizesOk Try.prog 26 = false ∧ flatK Try.prog 40 26 = none ∧ Try.prog.eqGuardType Try.prog.depth 26 = false := by
  refine ⟨?_, ?_, ?_, ?_, ?_, ?_, ?_, ?_, ?_, ?_, ?_, ?_, ?_, ?_⟩ <;> kernel_rfl
@[simp] theorem tj_27 :
    szOf Try.prog 27 = some 1 ∧ isAggT Try.prog 27 = some false ∧ isSl Try.prog 27 = none ∧ isArr Try.prog 27 = none ∧ isStr Try.prog 27 = false ∧ isInt Try.prog 27 = none ∧ isU8 Try.prog 27 = false ∧ isBool Try.prog 27 = false ∧ nkT Try.prog 27 = some NK.func ∧ (Try.prog.info? 27).map (·.bytes) = some 8 ∧ (Try.prog.underlying 27).isSome = true ∧ sizesOk Try.prog 27 = false ∧ zeroOf Try.prog 27 = some [AV.v Value.nilFunc] ∧ flatK Try.prog 40 27 = none ∧ Try.prog.eqGuardType Try.prog.depth 27 = false := by
  refine ⟨?_, ?_, ?_, ?_, ?_, ?_, ?_, ?_, ?_, ?_, ?_, ?_, ?_, ?_, ?_⟩ <;> kernel_rfl
@[simp] theorem tj_28 :
    szOf Try.prog 28 = some 1 ∧ isAggT Try.prog 28 = some false ∧ isSl Try.prog 28 = none ∧ isArr Try.prog 28 = none ∧ isStr Try.prog 28 = false ∧ isInt Try.prog 28 = none ∧ isU8 Try.prog 28 = false ∧ isBool Try.prog 28 = false ∧ nkT Try.prog 28 = some NK.func ∧ (Try.prog.info? 28).map (·.bytes) = some 8 ∧ (Try.prog.underlying 28).isSome = true ∧ sizesOk Try.prog 28 = false ∧ zeroOf Try.prog 28 = some [AV.v Value.nilFunc] ∧ flatK Try.prog 40 28 = none ∧ Try.prog.eqGuardType Try.prog.depth 28 = false := by
  refine ⟨?_, ?_, ?_, ?_, ?_, ?_, ?_, ?_, ?_, ?_, ?_, ?_, ?_, ?_, ?_⟩ <;> kernel_rfl
@[simp] theorem tj_29 :
    szOf Try.prog 29 = some 16 ∧ isAggT Try.prog 29 = some true ∧ isSl Try.prog 29 = none ∧ isArr Try.prog 29 = some (16, 5) ∧ isStr Try.prog 29 = false ∧ isInt Try.prog 29 = none ∧ isU8 Try.prog 29 = false ∧ isBool Try.prog 29 = false ∧ nkT Try.prog 29 = none ∧ (Try.prog.info? 29).map (·.bytes) = some 16 ∧ (Try.prog.underlying 29).isSome = true ∧ sizesOk Try.prog 29 = true ∧ zeroOf Try.prog 29 = some [AV.v (Value.int IntKind.u8 (Int.ofNat 0)), AV.v (Value.int IntKind.u8 (Int.ofNat 0)), AV.v (Value.int IntKind.u8 (Int.ofNat 0)), AV.v (Value.int IntKind.u8 (Int.ofNat 0)), AV.v (Value.int IntKind.u8 (Int.ofNat 0)), AV.v (Value.int IntKind.u8 (Int.ofNat 0)), AV.v (Value.int IntKind.u8 (Int.ofNat 0)), AV.v (Value.int IntKind.u8 (Int.ofNat 0)), AV.v (Value.int IntKind.u8 (Int.ofNat 0)), AV.v (Value.int IntKind.u8 (Int.ofNat 0)), AV.v (Value.int IntKind.u8 (Int.ofNat 0)), AV.v (Value.int IntKind.u8 (Int.ofNat 0)), AV.v (Value.int IntKind.u8 (Int.ofNat 0)), AV.v (Value.int IntKind.u8 (Int.ofNat 0)), AV.v (Value.int IntKind.u8 (Int.ofNat 0)), AV.v (Value.int IntKind.u8 (Int.ofNat 0))] ∧ flatK Try.prog 40 29 = some [LK.int, LK.int, LK.int, LK.int, LK.int, LK.int, LK.int, LK.int, LK.int, LK.int, LK.int, LK.int, LK.int, LK.int, LK.int, LK.int] ∧ Try.prog.eqGuardType Try.prog.depth 29 = false := by
  refine ⟨?_, ?_, ?_, ?_, ?_, ?_, ?_, ?_, ?_, ?_, ?_, ?_, ?_, ?_, ?_⟩ <;> kernel_rfl
@[simp] theorem tj_30 :
    szOf Try.prog 30 = some 35 ∧ isAggT Try.prog 30 = some true ∧ isSl Try.prog 30 = none ∧ isArr Try.prog 30 = none ∧ isStr Try.prog 30 = false ∧ isInt Try.prog 30 = none ∧ isU8 Try.prog 30 = false ∧ isBool Try.prog 30 = false ∧ nkT Try.prog 30 = none ∧ (Try.prog.info? 30).map (·.bytes) = some 44 ∧ (Try.prog.underlying 30).isSome = true ∧ sizesOk Try.prog 30 = true ∧ zeroOf Try.prog 30 = some [AV.v (Value.bool false), AV.v (Value.int IntKind.u8 (Int.ofNat 0)), AV.v (Value.int IntKind.u8 (Int.ofNat 0)), AV.v (Value.int IntKind.u8 (Int.ofNat 0)), AV.v (Value.int IntKind.u8 (Int.ofNat 0)), AV.v (Value.int IntKind.u8 (Int.ofNat 0)), AV.v (Value.int IntKind.u8 (Int.ofNat 0)), AV.v (Value.int IntKind.u8 (Int.ofNat 0)), AV.v (Value.int IntKind.u8 (Int.ofNat 0)), AV.v (Value.int IntKind.u8 (Int.ofNat 0)), AV.v (Value.int IntKind.u8 (Int.ofNat 0)), AV.v (Value.int IntKind.u8 (Int.ofNat 0)), AV.v (Value.int IntKind.u8 (Int.ofNat 0)), AV.v (Value.int IntKind.u8 (Int.ofNat 0)), AV.v (Value.int IntKind.u8 (Int.ofNat 0)), AV.v (Value.int IntKind.u8 (Int.ofNat 0)), AV.v (Value.int IntKind.u8 (Int.ofNat 0)), AV.v (Value.int IntKind.u8 (Int.ofNat 0)), AV.v (Value.int IntKind.u8 (Int.ofNat 0)), AV.v (Value.int IntKind.u8 (Int.ofNat 0)), AV.v (Value.int IntKind.u8 (Int.ofNat 0)), AV.v (Value.int IntKind.u8 (Int.ofNat 0)), AV.v (Value.int IntKind.u8 (Int.ofNat 0)), AV.v (Value.int IntKind.u8 (Int.ofNat 0)), AV.v (Value.int IntKind.u8 (Int.ofNat 0)), AV.v (Value.int IntKind.u8 (Int.ofNat 0)), AV.v (Value.int IntKind.u8 (Int.ofNat 0)), AV.v (Value.int IntKind.u8 (Int.ofNat 0)), AV.v (Value.int IntKind.u8 (Int.ofNat 0)), AV.v (Value.int IntKind.u8 (Int.ofNat 0)), AV.v (Value.int IntKind.u8 (Int.ofNat 0)), AV.v (Value.int IntKind.u8 (Int.ofNat 0)), AV.v (Value.int IntKind.u8 (Int.ofNat 0)), AV.v (Value.int IntKind.u32 (Int.ofNat 0)), AV.v (Value.int IntKind.u8 (Int.ofNat 0))] ∧ flatK Try.prog 40 30 = some [LK.bool, LK.int, LK.int, LK.int, LK.int, LK.int, LK.int, LK.int, LK.int, LK.int, LK.int, LK.int, LK.int, LK.int, LK.int, LK.int, LK.int, LK.int, LK.int, LK.int, LK.int, LK.int, LK.int, LK.int, LK.int, LK.int, LK.int, LK.int, LK.int, LK.int, LK.int, LK.int, LK.int, LK.int, LK.int] ∧ Try.prog.eqGuardType Try.prog.depth 30 = false := by
  refine ⟨?_, ?_, ?_, ?_, ?_, ?_, ?_, ?_, ?_, ?_, ?_, ?_, ?_, ?_, ?_⟩ <;> kernel_rfl
@[simp] theorem tb_fd30_0 : fieldOf Try.prog 30 0 = some (0, 4) := by kernel_rfl
@[simp] theorem tb_fd30_1 : fieldOf Try.prog 30 1 = some (1, 29) := by kernel_rfl
@[simp] theorem tb_fd30_2 : fieldOf Try.prog 30 2 = some (17, 29) := by kernel_rfl
@[simp] theorem tb_fd30_3 : fieldOf Try.prog 30 3 = some (33, 22) := by kernel_rfl
@[simp] theorem tb_fd30_4 : fieldOf Try.prog 30 4 = some (34, 5) := by kernel_rfl
@[simp] theorem tj_31 :
    szOf Try.prog 31 = some 35 ∧ isAggT Try.prog 31 = some true ∧ isSl Try.prog 31 = none ∧ isArr Try.prog 31 = none ∧ isStr Try.prog 31 = false ∧ isInt Try.prog 31 = none ∧ isU8 Try.prog 31 = false ∧ isBool Try.prog 31 = false ∧ nkT Try.prog 31 = none ∧ (Try.prog.info? 31).map (·.bytes) = some 44 ∧ (Try.prog.underlying 31).isSome = true ∧ sizesOk Try.prog 31 = true ∧ zeroOf Try.prog 31 = some [AV.v (Value.bool false), AV.v (Value.int IntKind.u8 (Int.ofNat 0)), AV.v (Value.int IntKind.u8 (Int.ofNat 0)), AV.v (Value.int IntKind.u8 (Int.ofNat 0)), AV.v (Value.int IntKind.u8 (Int.ofNat 0)), AV.v (Value.int IntKind.u8 (Int.ofNat 0)), AV.v (Value.int IntKind.u8 (Int.ofNat 0)), AV.v (Value.int IntKind.u8 (Int.ofNat 0)), AV.v (Value.int IntKind.u8 (Int.ofNat 0)), AV.v (Value.int IntKind.u8 (Int.ofNat 0)), AV.v (Value.int IntKind.u8 (Int.ofNat 0)), AV.v (Value.int IntKind.u8 (Int.ofNat 0)), AV.v (Value.int IntKind.u8 (Int.ofNat 0)), AV.v (Value.int IntKind.u8 (Int.ofNat 0)), AV.v (Value.int IntKind.u8 (Int.ofNat 0)), AV.v (Value.int IntKind.u8 (Int.ofNat 0)), AV.v (Value.int IntKind.u8 (Int.ofNat 0)), AV.v (Value.int IntKind.u8 (Int.ofNat 0)), AV.v (Value.int IntKind.u8 (Int.ofNat 0)), AV.v (Value.int IntKind.u8 (Int.ofNat 0)), AV.v (Value.int IntKind.u8 (Int.ofNat 0)), AV.v (Value.int IntKind.u8 (Int.ofNat 0)), AV.v (Value.int IntKind.u8 (Int.ofNat 0)), AV.v (Value.int IntKind.u8 (Int.ofNat 0)), AV.v (Value.int IntKind.u8 (Int.ofNat 0)), AV.v (Value.int IntKind.u8 (Int.ofNat 0)), AV.v (Value.int IntKind.u8 (Int.ofNat 0)), AV.v (Value.int IntKind.u8 (Int.ofNat 0)), AV.v (Value.int IntKind.u8 (Int.ofNat 0)), AV.v (Value.int IntKind.u8 (Int.ofNat 0)), AV.v (Value.int IntKind.u8 (Int.ofNat 0)), AV.v (Value.int IntKind.u8 (Int.ofNat 0)), AV.v (Value.int IntKind.u8 (Int.ofNat 0)), AV.v (Value.int IntKind.u32 (Int.ofNat 0)), AV.v (Value.int IntKind.u8 (Int.ofNat 0))] ∧ flatK Try.prog 40 31 = some [LK.bool, LK.int, LK.int, LK.int, LK.int, LK.int, LK.int, LK.int, LK.int, LK.int, LK.int, LK.int, LK.int, LK.int, LK.int, LK.int, LK.int, LK.int, LK.int, LK.int, LK.int, LK.int, LK.int, LK.int, LK.int, LK.int, LK.int, LK.int, LK.int, LK.int, LK.int, LK.int, LK.int, LK.int, LK.int] ∧ Try.prog.eqGuardType Try.prog.depth 31 = false := by
  refine ⟨?_, ?_, ?_, ?_, ?_, ?_, ?_, ?_, ?_, ?_, ?_, ?_, ?_, ?_, ?_⟩ <;> kernel_rfl
theorem tb_kt31 : ktOf Try.prog 31 = some (true, [KT.bool, KT.int IntKind.u8, KT.int IntKind.u8, KT.int IntKind.u8, KT.int IntKind.u8, KT.int IntKind.u8, KT.int IntKind.u8, KT.int IntKind.u8, KT.int IntKind.u8, KT.int IntKind.u8, KT.int IntKind.u8, KT.int IntKind.u8, KT.int IntKind.u8, KT.int IntKind.u8, KT.int IntKind.u8, KT.int IntKind.u8, KT.int IntKind.u8, KT.int IntKind.u8, KT.int IntKind.u8, KT.int IntKind.u8, KT.int IntKind.u8, KT.int IntKind.u8, KT.int IntKind.u8, KT.int IntKind.u8, KT.int IntKind.u8, KT.int IntKind.u8, KT.int IntKind.u8, KT.int IntKind.u8, KT.int IntKind.u8, KT.int IntKind.u8, KT.int IntKind.u8, KT.int IntKind.u8, KT.int IntKind.u8, KT.int IntKind.u32, KT.int IntKind.u8]) := by kernel_rfl
@[simp] theorem tb_kb31 (v : Value) : keyB (ktOf Try.prog 31) v = keyB (some (true, [KT.bool, KT.int IntKind.u8, KT.int IntKind.u8, KT.int IntKind.u8, KT.int IntKind.u8, KT.int IntKind.u8, KT.int IntKind.u8, KT.int IntKind.u8, KT.int IntKind.u8, KT.int IntKind.u8, KT.int IntKind.u8, KT.int IntKind.u8, KT.int IntKind.u8, KT.int IntKind.u8, KT.int IntKind.u8, KT.int IntKind.u8, KT.int IntKind.u8, KT.int IntKind.u8, KT.int IntKind.u8, KT.int IntKind.u8, KT.int IntKind.u8, KT.int IntKind.u8, KT.int IntKind.u8, KT.int IntKind.u8, KT.int IntKind.u8, KT.int IntKind.u8, KT.int IntKind.u8, KT.int IntKind.u8, KT.int IntKind.u8, KT.int IntKind.u8, KT.int IntKind.u8, KT.int IntKind.u8, KT.int IntKind.u8, KT.int IntKind.u32, KT.int IntKind.u8])) v := by rw [tb_kt31]
@[simp] theorem tb_fd31_0 : fieldOf Try.prog 31 0 = some (0, 4) := by kernel_rfl
@[simp] theorem tb_fd31_1 : fieldOf Try.prog 31 1 = some (1, 29) := by kernel_rfl
@[simp] theorem tb_fd31_2 : fieldOf Try.prog 31 2 = some (17, 29) := by kernel_rfl
@[simp] theorem tb_fd31_3 : fieldOf Try.prog 31 3 = some (33, 22) := by kernel_rfl
@[simp] theorem tb_fd31_4 : fieldOf Try.prog 31 4 = some (34, 5) := by kernel_rfl
@[simp] theorem tj_32 :
    szOf Try.prog 32 = some 1 ∧ isAggT Try.prog 32 = some false ∧ isSl Try.prog 32 = none ∧ isArr Try.prog 32 = none ∧ isStr Try.prog 32 = false ∧ isInt Try.prog 32 = none ∧ isU8 Try.prog 32 = false ∧ isBool Try.prog 32 = false ∧ nkT Try.prog 32 = some NK.func ∧ (Try.prog.info? 32).map (·.bytes) = some 8 ∧ (Try.prog.underlying 32).isSome = true ∧ sizesOk Try.prog 32 = false ∧ zeroOf Try.prog 32 = some [AV.v Value.nilFunc] ∧ flatK Try.prog 40 32 = none ∧ Try.prog.eqGuardType Try.prog.depth 32 = false := by
  refine ⟨?_, ?_, ?_, ?_, ?_, ?_, ?_, ?_, ?_, ?_, ?_, ?_, ?_, ?_, ?_⟩ <;> kernel_rfl
@[simp] theorem tj_33 :
    szOf Try.prog 33 = some 38 ∧ isAggT Try.prog 33 = some true ∧ isSl Try.prog 33 = none ∧ isArr Try.prog 33 = none ∧ isStr Try.prog 33 = false ∧ isInt Try.prog 33 = none ∧ isU8 Try.prog 33 = false ∧ isBool Try.prog 33 = false ∧ nkT Try.prog 33 = none ∧ (Try.prog.info? 33).map (·.bytes) = some 88 ∧ (Try.prog.underlying 33).isSome = true ∧ sizesOk Try.prog 33 = true ∧ zeroOf Try.prog 33 = some [AV.v (Value.bool false), AV.v (Value.int IntKind.u8 (Int.ofNat 0)), AV.v (Value.int IntKind.u8 (Int.ofNat 0)), AV.v (Value.int IntKind.u8 (Int.ofNat 0)), AV.v (Value.int IntKind.u8 (Int.ofNat 0)), AV.v (Value.int IntKind.u8 (Int.ofNat 0)), AV.v (Value.int IntKind.u8 (Int.ofNat 0)), AV.v (Value.int IntKind.u8 (Int.ofNat 0)), AV.v (Value.int IntKind.u8 (Int.ofNat 0)), AV.v (Value.int IntKind.u8 (Int.ofNat 0)), AV.v (Value.int IntKind.u8 (Int.ofNat 0)), AV.v (Value.int IntKind.u8 (Int.ofNat 0)), AV.v (Value.int IntKind.u8 (Int.ofNat 0)), AV.v (Value.int IntKind.u8 (Int.ofNat 0)), AV.v (Value.int IntKind.u8 (Int.ofNat 0)), AV.v (Value.int IntKind.u8 (Int.ofNat 0)), AV.v (Value.int IntKind.u8 (Int.ofNat 0)), AV.v (Value.int IntKind.u8 (Int.ofNat 0)), AV.v (Value.int IntKind.u8 (Int.ofNat 0)), AV.v (Value.int IntKind.u8 (Int.ofNat 0)), AV.v (Value.int IntKind.u8 (Int.ofNat 0)), AV.v (Value.int IntKind.u8 (Int.ofNat 0)), AV.v (Value.int IntKind.u8 (Int.ofNat 0)), AV.v (Value.int IntKind.u8 (Int.ofNat 0)), AV.v (Value.int IntKind.u8 (Int.ofNat 0)), AV.v (Value.int IntKind.u8 (Int.ofNat 0)), AV.v (Value.int IntKind.u8 (Int.ofNat 0)), AV.v (Value.int IntKind.u8 (Int.ofNat 0)), AV.v (Value.int IntKind.u8 (Int.ofNat 0)), AV.v (Value.int IntKind.u8 (Int.ofNat 0)), AV.v (Value.int IntKind.u8 (Int.ofNat 0)), AV.v (Value.int IntKind.u8 (Int.ofNat 0)), AV.v (Value.int IntKind.u8 (Int.ofNat 0)), AV.v (Value.int IntKind.u32 (Int.ofNat 0)), AV.v (Value.int IntKind.u8 (Int.ofNat 0)), AV.v (Value.int IntKind.i64 (Int.ofNat 0)), AV.v (Value.bool false), AV.v (Value.slice none 0 0)] ∧ flatK Try.prog 40 33 = none ∧ Try.prog.eqGuardType Try.prog.depth 33 = false := by
  refine ⟨?_, ?_, ?_, ?_, ?_, ?_, ?_, ?_, ?_, ?_, ?_, ?_, ?_, ?_, ?_⟩ <;> kernel_rfl
@[simp] theorem tb_fd33_0 : fieldOf Try.prog 33 0 = some (0, 31) := by kernel_rfl
@[simp] theorem tb_fd33_1 : fieldOf Try.prog 33 1 = some (35, 3) := by kernel_rfl
@[simp] theorem tb_fd33_2 : fieldOf Try.prog 33 2 = some (36, 4) := by kernel_rfl
@[simp] theorem tb_fd33_3 : fieldOf Try.prog 33 3 = some (37, 23) := by kernel_rfl
@[simp] theorem tj_34 :
    szOf Try.prog 34 = some 38 ∧ isAggT Try.prog 34 = some true ∧ isSl Try.prog 34 = none ∧ isArr Try.prog 34 = none ∧ isStr Try.prog 34 = false ∧ isInt Try.prog 34 = none ∧ isU8 Try.prog 34 = false ∧ isBool Try.prog 34 = false ∧ nkT Try.prog 34 = none ∧ (Try.prog.info? 34).map (·.bytes) = some 88 ∧ (Try.prog.underlying 34).isSome = true ∧ sizesOk Try.prog 34 = true ∧ zeroOf Try.prog 34 = some [AV.v (Value.bool false), AV.v (Value.int IntKind.u8 (Int.ofNat 0)), AV.v (Value.int IntKind.u8 (Int.ofNat 0)), AV.v (Value.int IntKind.u8 (Int.ofNat 0)), AV.v (Value.int IntKind.u8 (Int.ofNat 0)), AV.v (Value.int IntKind.u8 (Int.ofNat 0)), AV.v (Value.int IntKind.u8 (Int.ofNat 0)), AV.v (Value.int IntKind.u8 (Int.ofNat 0)), AV.v (Value.int IntKind.u8 (Int.ofNat 0)), AV.v (Value.int IntKind.u8 (Int.ofNat 0)), AV.v (Value.int IntKind.u8 (Int.ofNat 0)), AV.v (Value.int IntKind.u8 (Int.ofNat 0)), AV.v (Value.int IntKind.u8 (Int.ofNat 0)), AV.v (Value.int IntKind.u8 (Int.ofNat 0)), AV.v (Value.int IntKind.u8 (Int.ofNat 0)), AV.v (Value.int IntKind.u8 (Int.ofNat 0)), AV.v (Value.int IntKind.u8 (Int.ofNat 0)), AV.v (Value.int IntKind.u8 (Int.ofNat 0)), AV.v (Value.int IntKind.u8 (Int.ofNat 0)), AV.v (Value.int IntKind.u8 (Int.ofNat 0)), AV.v (Value.int IntKind.u8 (Int.ofNat 0)), AV.v (Value.int IntKind.u8 (Int.ofNat 0)), AV.v (Value.int IntKind.u8 (Int.ofNat 0)), AV.v (Value.int IntKind.u8 (Int.ofNat 0)), AV.v (Value.int IntKind.u8 (Int.ofNat 0)), AV.v (Value.int IntKind.u8 (Int.ofNat 0)), AV.v (Value.int IntKind.u8 (Int.ofNat 0)), AV.v (Value.int IntKind.u8 (Int.ofNat 0)), AV.v (Value.int IntKind.u8 (Int.ofNat 0)), AV.v (Value.int IntKind.u8 (Int.ofNat 0)), AV.v (Value.int IntKind.u8 (Int.ofNat 0)), AV.v (Value.int IntKind.u8 (Int.ofNat 0)), AV.v (Value.int IntKind.u8 (Int.ofNat 0)), AV.v (Value.int IntKind.u32 (Int.ofNat 0)), AV.v (Value.int IntKind.u8 (Int.ofNat 0)), AV.v (Value.int IntKind.i64 (Int.ofNat 0)), AV.v (Value.bool false), AV.v (Value.slice none 0 0)] ∧ flatK Try.prog 40 34 = none ∧ Try.prog.eqGuardType Try.prog.depth 34 = false := by
  refine ⟨?_, ?_, ?_, ?_, ?_, ?_, ?_, ?_, ?_, ?_, ?_, ?_, ?_, ?_, ?_⟩ <;> kernel_rfl
@[simp] theorem tb_fd34_0 : fieldOf Try.prog 34 0 = some (0, 31) := by kernel_rfl
@[simp] theorem tb_fd34_1 : fieldOf Try.prog 34 1 = some (35, 3) := by kernel_rfl
@[simp] theorem tb_fd34_2 : fieldOf Try.prog 34 2 = some (36, 4) := by kernel_rfl
@[simp] theorem tb_fd34_3 : fieldOf Try.prog 34 3 = some (37, 23) := by kernel_rfl
@[simp] theorem tj_35 :
    szOf Try.prog 35 = some 1 ∧ isAggT Try.prog 35 = some false ∧ isSl Try.prog 35 = some 23 ∧ isArr Try.prog 35 = none ∧ isStr Try.prog 35 = false ∧ isInt Try.prog 35 = none ∧ isU8 Try.prog 35 = false ∧ isBool Try.prog 35 = false ∧ nkT Try.prog 35 = some NK.slice ∧ (Try.prog.info? 35).map (·.bytes) = some 24 ∧ (Try.prog.underlying 35).isSome = true ∧ sizesOk Try.prog 35 = false ∧ zeroOf Try.prog 35 = some [AV.v (Value.slice none 0 0)] ∧ flatK Try.prog 40 35 = none ∧ Try.prog.eqGuardType Try.prog.depth 35 = false := by
  refine ⟨?_, ?_, ?_, ?_, ?_, ?_, ?_, ?_, ?_, ?_, ?_, ?_, ?_, ?_, ?_⟩ <;> kernel_rfl
@[simp] theorem tj_36 :
    szOf Try.prog 36 = some 1 ∧ isAggT Try.prog 36 = some false ∧ isSl Try.prog 36 = none ∧ isArr Try.prog 36 = none ∧ isStr Try.prog 36 = false ∧ isInt Try.prog 36 = some IntKind.u16 ∧ isU8 Try.prog 36 = false ∧ isBool Try.prog 36 = false ∧ nkT Try.prog 36 = none ∧ (Try.prog.info? 36).map (·.bytes) = some 2 ∧ (Try.prog.underlying 36).isSome = true ∧ sizesOk Try.prog 36 = false ∧ zeroOf Try.prog 36 = some [AV.v (Value.int IntKind.u16 (Int.ofNat 0))] ∧ flatK Try.prog 40 36 = some [LK.int] ∧ Try.prog.eqGuardType Try.prog.depth 36 = false := by
  refine ⟨?_, ?_, ?_, ?_, ?_, ?_, ?_, ?_, ?_, ?_, ?_, ?_, ?_, ?_, ?_⟩ <;> kernel_rfl
@[simp] theorem tj_37 :
    szOf Try.prog 37 = some 36 ∧ isAggT Try.prog 37 = some true ∧ isSl Try.prog 37 = none ∧ isArr Try.prog 37 = none ∧ isStr Try.prog 37 = false ∧ isInt Try.prog 37 = none ∧ isU8 Try.prog 37 = false ∧ isBool Try.prog 37 = false ∧ nkT Try.prog 37 = none ∧ (Try.prog.info? 37).map (·.bytes) = some 38 ∧ (Try.prog.underlying 37).isSome = true ∧ sizesOk Try.prog 37 = true ∧ zeroOf Try.prog 37 = some [AV.v (Value.bool false), AV.v (Value.int IntKind.u8 (Int.ofNat 0)), AV.v (Value.int IntKind.u8 (Int.ofNat 0)), AV.v (Value.int IntKind.u8 (Int.ofNat 0)), AV.v (Value.int IntKind.u8 (Int.ofNat 0)), AV.v (Value.int IntKind.u8 (Int.ofNat 0)), AV.v (Value.int IntKind.u8 (Int.ofNat 0)), AV.v (Value.int IntKind.u8 (Int.ofNat 0)), AV.v (Value.int IntKind.u8 (Int.ofNat 0)), AV.v (Value.int IntKind.u8 (Int.ofNat 0)), AV.v (Value.int IntKind.u8 (Int.ofNat 0)), AV.v (Value.int IntKind.u8 (Int.ofNat 0)), AV.v (Value.int IntKind.u8 (Int.ofNat 0)), AV.v (Value.int IntKind.u8 (Int.ofNat 0)), AV.v (Value.int IntKind.u8 (Int.ofNat 0)), AV.v (Value.int IntKind.u8 (Int.ofNat 0)), AV.v (Value.int IntKind.u8 (Int.ofNat 0)), AV.v (Value.int IntKind.u8 (Int.ofNat 0)), AV.v (Value.int IntKind.u8 (Int.ofNat 0)), AV.v (Value.int IntKind.u8 (Int.ofNat 0)), AV.v (Value.int IntKind.u8 (Int.ofNat 0)), AV.v (Value.int IntKind.u8 (Int.ofNat 0)), AV.v (Value.int IntKind.u8 (Int.ofNat 0)), AV.v (Value.int IntKind.u8 (Int.ofNat 0)), AV.v (Value.int IntKind.u8 (Int.ofNat 0)), AV.v (Value.int IntKind.u8 (Int.ofNat 0)), AV.v (Value.int IntKind.u8 (Int.ofNat 0)), AV.v (Value.int IntKind.u8 (Int.ofNat 0)), AV.v (Value.int IntKind.u8 (Int.ofNat 0)), AV.v (Value.int IntKind.u8 (Int.ofNat 0)), AV.v (Value.int IntKind.u8 (Int.ofNat 0)), AV.v (Value.int IntKind.u8 (Int.ofNat 0)), AV.v (Value.int IntKind.u8 (Int.ofNat 0)), AV.v (Value.int IntKind.u8 (Int.ofNat 0)), AV.v (Value.int IntKind.u16 (Int.ofNat 0)), AV.v (Value.int IntKind.u16 (Int.ofNat 0))] ∧ flatK Try.prog 40 37 = some [LK.bool, LK.int, LK.int, LK.int, LK.int, LK.int, LK.int, LK.int, LK.int, LK.int, LK.int, LK.int, LK.int, LK.int, LK.int, LK.int, LK.int, LK.int, LK.int, LK.int, LK.int, LK.int, LK.int, LK.int, LK.int, LK.int, LK.int, LK.int, LK.int, LK.int, LK.int, LK.int, LK.int, LK.int, LK.int, LK.int] ∧ Try.prog.eqGuardType Try.prog.depth 37 = false := by
  refine ⟨?_, ?_, ?_, ?_, ?_, ?_, ?_, ?_, ?_, ?_, ?_, ?_, ?_, ?_, ?_⟩ <;> kernel_rfl
@[simp] theorem tb_fd37_0 : fieldOf Try.prog 37 0 = some (0, 4) := by kernel_rfl
@[simp] theorem tb_fd37_1 : fieldOf Try.prog 37 1 = some (1, 5) := by kernel_rfl
@[simp] theorem tb_fd37_2 : fieldOf Try.prog 37 2 = some (2, 29) := by kernel_rfl
@[simp] theorem tb_fd37_3 : fieldOf Try.prog 37 3 = some (18, 29) := by kernel_rfl
@[simp] theorem tb_fd37_4 : fieldOf Try.prog 37 4 = some (34, 36) := by kernel_rfl
@[simp] theorem tb_fd37_5 : fieldOf Try.prog 37 5 = some (35, 36) := by kernel_rfl
@[simp] theorem tj_38 :
    szOf Try.prog 38 = some 36 ∧ isAggT Try.prog 38 = some true ∧ isSl Try.prog 38 = none ∧ isArr Try.prog 38 = none ∧ isStr Try.prog 38 = false ∧ isInt Try.prog 38 = none ∧ isU8 Try.prog 38 = false ∧ isBool Try.prog 38 = false ∧ nkT Try.prog 38 = none ∧ (Try.prog.info? 38).map (·.bytes) = some 38 ∧ (Try.prog.underlying 38).isSome = true ∧ sizesOk Try.prog 38 = true ∧ zeroOf Try.prog 38 = some [AV.v (Value.bool false), AV.v (Value.int IntKind.u8 (Int.ofNat 0)), AV.v (Value.int IntKind.u8 (Int.ofNat 0)), AV.v (Value.int IntKind.u8 (Int.ofNat 0)), AV.v (Value.int IntKind.u8 (Int.ofNat 0)), AV.v (Value.int IntKind.u8 (Int.ofNat 0)), AV.v (Value.int IntKind.u8 (Int.ofNat 0)), AV.v (Value.int IntKind.u8 (Int.ofNat 0)), AV.v (Value.int IntKind.u8 (Int.ofNat 0)), AV.v (Value.int IntKind.u8 (Int.ofNat 0)), AV.v (Value.int IntKind.u8 (Int.ofNat 0)), AV.v (Value.int IntKind.u8 (Int.ofNat 0)), AV.v (Value.int IntKind.u8 (Int.ofNat 0)), AV.v (Value.int IntKind.u8 (Int.ofNat 0)), AV.v (Value.int IntKind.u8 (Int.ofNat 0)), AV.v (Value.int IntKind.u8 (Int.ofNat 0)), AV.v (Value.int IntKind.u8 (Int.ofNat 0)), AV.v (Value.int IntKind.u8 (Int.ofNat 0)), AV.v (Value.int IntKind.u8 (Int.ofNat 0)), AV.v (Value.int IntKind.u8 (Int.ofNat 0)), AV.v (Value.int IntKind.u8 (Int.ofNat 0)), AV.v (Value.int IntKind.u8 (Int.ofNat 0)), AV.v (Value.int IntKind.u8 (Int.ofNat 0)), AV.v (Value.int IntKind.u8 (Int.ofNat 0)), AV.v (Value.int IntKind.u8 (Int.ofNat 0)), AV.v (Value.int IntKind.u8 (Int.ofNat 0)), AV.v (Value.int IntKind.u8 (Int.ofNat 0)), AV.v (Value.int IntKind.u8 (Int.ofNat 0)), AV.v (Value.int IntKind.u8 (Int.ofNat 0)), AV.v (Value.int IntKind.u8 (Int.ofNat 0)), AV.v (Value.int IntKind.u8 (Int.ofNat 0)), AV.v (Value.int IntKind.u8 (Int.ofNat 0)), AV.v (Value.int IntKind.u8 (Int.ofNat 0)), AV.v (Value.int IntKind.u8 (Int.ofNat 0)), AV.v (Value.int IntKind.u16 (Int.ofNat 0)), AV.v (Value.int IntKind.u16 (Int.ofNat 0))] ∧ flatK Try.prog 40 38 = some [LK.bool, LK.int, LK.int, LK.int, LK.int, LK.int, LK.int, LK.int, LK.int, LK.int, LK.int, LK.int, LK.int, LK.int, LK.int, LK.int, LK.int, LK.int, LK.int, LK.int, LK.int, LK.int, LK.int, LK.int, LK.int, LK.int, LK.int, LK.int, LK.int, LK.int, LK.int, LK.int, LK.int, LK.int, LK.int, LK.int] ∧ Try.prog.eqGuardType Try.prog.depth 38 = false := by
  refine ⟨?_, ?_, ?_, ?_, ?_, ?_, ?_, ?_, ?_, ?_, ?_, ?_, ?_, ?_, ?_⟩ <;> kernel_rfl
@[simp] theorem tb_fd38_0 : fieldOf Try.prog 38 0 = some (0, 4) := by kernel_rfl
@[simp] theorem tb_fd38_1 : fieldOf Try.prog 38 1 = some (1, 5) := by kernel_rfl
@[simp] theorem tb_fd38_2 : fieldOf Try.prog 38 2 = some (2, 29) := by kernel_rfl
@[simp] theorem tb_fd38_3 : fieldOf Try.prog 38 3 = some (18, 29) := by kernel_rfl
@[simp] theorem tb_fd38_4 : fieldOf Try.prog 38 4 = some (34, 36) := by kernel_rfl
@[simp] theorem tb_fd38_5 : fieldOf Try.prog 38 5 = some (35, 36) := by kernel_rfl
@[simp] theorem tj_39 :
    szOf Try.prog 39 = some 1 ∧ isAggT Try.prog 39 = some false ∧ isSl Try.prog 39 = none ∧ isArr Try.prog 39 = none ∧ isStr Try.prog 39 = false ∧ isInt Try.prog 39 = none ∧ isU8 Try.prog 39 = false ∧ isBool Try.prog 39 = false ∧ nkT Try.prog 39 = none ∧ (Try.prog.info? 39).map (·.bytes) = some 0 ∧ (Try.prog.underlying 39).isSome = true ∧ sizesOk Try.prog 39 = false ∧ flatK Try.prog 40 39 = none ∧ Try.prog.eqGuardType Try.prog.depth 39 = false := by
  refine ⟨?_, ?_, ?_, ?_, ?_, ?_, ?_, ?_, ?_, ?_, ?_, ?_, ?_, ?_⟩ <;> kernel_rfl
@[simp] theorem tj_40 :
    szOf Try.prog 40 = some 1 ∧ isAggT Try.prog 40 = some false ∧ isSl Try.prog 40 = none ∧ isArr Try.prog 40 = none ∧ isStr Try.prog 40 = false ∧ isInt Try.prog 40 = none ∧ isU8 Try.prog 40 = false ∧ isBool Try.prog 40 = false ∧ nkT Try.prog 40 = some NK.func ∧ (Try.prog.info? 40).map (·.bytes) = some 8 ∧ (Try.prog.underlying 40).isSome = true ∧ sizesOk Try.prog 40 = false ∧ zeroOf Try.prog 40 = some [AV.v Value.nilFunc] ∧ flatK Try.prog 40 40 = none ∧ Try.prog.eqGuardType Try.prog.depth 40 = false := by
  refine ⟨?_, ?_, ?_, ?_, ?_, ?_, ?_, ?_, ?_, ?_, ?_, ?_, ?_, ?_, ?_⟩ <;> kernel_rfl
@[simp] theorem tj_41 :
    szOf Try.prog 41 = some 1 ∧ isAggT Try.prog 41 = some false ∧ isSl Try.prog 41 = none ∧ isArr Try.prog 41 = none ∧ isStr Try.prog 41 = false ∧ isInt Try.prog 41 = none ∧ isU8 Try.prog 41 = false ∧ isBool Try.prog 41 = false ∧ nkT Try.prog 41 = some NK.func ∧ (Try.prog.info? 41).map (·.bytes) = some 8 ∧ (Try.prog.underlying 41).isSome = true ∧ sizesOk Try.prog 41 = false ∧ zeroOf Try.prog 41 = some [AV.v Value.nilFunc] ∧ flatK Try.prog 40 41 = none ∧ Try.prog.eqGuardType Try.prog.depth 41 = false := by
  refine ⟨?_, ?_, ?_, ?_, ?_, ?_, ?_, ?_, ?_, ?_, ?_, ?_, ?_, ?_, ?_⟩ <;> kernel_rfl
@[simp] theorem tj_42 :
    szOf Try.prog 42 = some 1 ∧ isAggT Try.prog 42 = some false ∧ isSl Try.prog 42 = none ∧ isArr Try.prog 42 = none ∧ isStr Try.prog 42 = false ∧ isInt Try.prog 42 = none ∧ isU8 Try.prog 42 = false ∧ isBool Try.prog 42 = false ∧ nkT Try.prog 42 = some NK.func ∧ (Try.prog.info? 42).map (·.bytes) = some 8 ∧ (Try.prog.underlying 42).isSome = true ∧ sizesOk Try.prog 42 = false ∧ zeroOf Try.prog 42 = some [AV.v Value.nilFunc] ∧ flatK Try.prog 40 42 = none ∧ Try.prog.eqGuardType Try.prog.depth 42 = false := by
  refine ⟨?_, ?_, ?_, ?_, ?_, ?_, ?_, ?_, ?_, ?_, ?_, ?_, ?_, ?_, ?_⟩ <;> kernel_rfl
@[simp] theorem tj_43 :
    szOf Try.prog 43 = some 1 ∧ isAggT Try.prog 43 = some false ∧ isSl Try.prog 43 = none ∧ isArr Try.prog 43 = none ∧ isStr Try.prog 43 = false ∧ isInt Try.prog 43 = some IntKind.u64 ∧ isU8 Try.prog 43 = false ∧ isBool Try.prog 43 = false ∧ nkT Try.prog 43 = none ∧ (Try.prog.info? 43).map (·.bytes) = some 8 ∧ (Try.prog.underlying 43).isSome = true ∧ sizesOk Try.prog 43 = false ∧ zeroOf Try.prog 43 = some [AV.v (Value.int IntKind.u64 (Int.ofNat 0))] ∧ flatK Try.prog 40 43 = some [LK.int] ∧ Try.prog.eqGuardType Try.prog.depth 43 = false := by
  refine ⟨?_, ?_, ?_, ?_, ?_, ?_, ?_, ?_, ?_, ?_, ?_, ?_, ?_, ?_, ?_⟩ <;> kernel_rfl
@[simp] theorem tj_44 :
    szOf Try.prog 44 = some 1 ∧ isAggT Try.prog 44 = some false ∧ isSl Try.prog 44 = none ∧ isArr Try.prog 44 = none ∧ isStr Try.prog 44 = false ∧ isInt Try.prog 44 = none ∧ isU8 Try.prog 44 = false ∧ isBool Try.prog 44 = false ∧ nkT Try.prog 44 = some NK.map ∧ (Try.prog.info? 44).map (·.bytes) = some 8 ∧ (Try.prog.underlying 44).isSome = true ∧ sizesOk Try.prog 44 = false ∧ zeroOf Try.prog 44 = some [AV.v (Value.map none)] ∧ flatK Try.prog 40 44 = none ∧ Try.prog.eqGuardType Try.prog.depth 44 = false ∧ isMap Try.prog 44 = some (31, 86) := by
  refine ⟨?_, ?_, ?_, ?_, ?_, ?_, ?_, ?_, ?_, ?_, ?_, ?_, ?_, ?_, ?_, ?_⟩ <;> kernel_rfl
@[simp] theorem tj_45 :
    szOf Try.prog 45 = some 3 ∧ isAggT Try.prog 45 = some true ∧ isSl Try.prog 45 = none ∧ isArr Try.prog 45 = none ∧ isStr Try.prog 45 = false ∧ isInt Try.prog 45 = none ∧ isU8 Try.prog 45 = false ∧ isBool Try.prog 45 = false ∧ nkT Try.prog 45 = none ∧ (Try.prog.info? 45).map (·.bytes) = some 24 ∧ (Try.prog.underlying 45).isSome = true ∧ sizesOk Try.prog 45 = true ∧ zeroOf Try.prog 45 = some [AV.v (Value.int IntKind.i64 (Int.ofNat 0)), AV.v (Value.int IntKind.u64 (Int.ofNat 0)), AV.v (Value.map none)] ∧ flatK Try.prog 40 45 = none ∧ Try.prog.eqGuardType Try.prog.depth 45 = false := by
  refine ⟨?_, ?_, ?_, ?_, ?_, ?_, ?_, ?_, ?_, ?_, ?_, ?_, ?_, ?_, ?_⟩ <;> kernel_rfl
@[simp] theorem tb_fd45_0 : fieldOf Try.prog 45 0 = some (0, 3) := by kernel_rfl
@[simp] theorem tb_fd45_1 : fieldOf Try.prog 45 1 = some (1, 43) := by kernel_rfl
@[simp] theorem tb_fd45_2 : fieldOf Try.prog 45 2 = some (2, 44) := by kernel_rfl
@[simp] theorem tj_46 :
    szOf Try.prog 46 = some 3 ∧ isAggT Try.prog 46 = some true ∧ isSl Try.prog 46 = none ∧ isArr Try.prog 46 = none ∧ isStr Try.prog 46 = false ∧ isInt Try.prog 46 = none ∧ isU8 Try.prog 46 = false ∧ isBool Try.prog 46 = false ∧ nkT Try.prog 46 = none ∧ (Try.prog.info? 46).map (·.bytes) = some 24 ∧ (Try.prog.underlying 46).isSome = true ∧ sizesOk Try.prog 46 = true ∧ zeroOf Try.prog 46 = some [AV.v (Value.int IntKind.i64 (Int.ofNat 0)), AV.v (Value.int IntKind.u64 (Int.ofNat 0)), AV.v (Value.map none)] ∧ flatK Try.prog 40 46 = none ∧ Try.prog.eqGuardType Try.prog.depth 46 = false := by
  refine ⟨?_, ?_, ?_, ?_, ?_, ?_, ?_, ?_, ?_, ?_, ?_, ?_, ?_, ?_, ?_⟩ <;> kernel_rfl
@[simp] theorem tb_fd46_0 : fieldOf Try.prog 46 0 = some (0, 3) := by kernel_rfl
@[simp] theorem tb_fd46_1 : fieldOf Try.prog 46 1 = some (1, 43) := by kernel_rfl
@[simp] theorem tb_fd46_2 : fieldOf Try.prog 46 2 = some (2, 44) := by kernel_rfl
@[simp] theorem tj_47 :
    szOf Try.prog 47 = some 1 ∧ isAggT Try.prog 47 = some false ∧ isSl Try.prog 47 = some 24 ∧ isArr Try.prog 47 = none ∧ isStr Try.prog 47 = false ∧ isInt Try.prog 47 = none ∧ isU8 Try.prog 47 = false ∧ isBool Try.prog 47 = false ∧ nkT Try.prog 47 = some NK.slice ∧ (Try.prog.info? 47).map (·.bytes) = some 24 ∧ (Try.prog.underlying 47).isSome = true ∧ sizesOk Try.prog 47 = false ∧ zeroOf Try.prog 47 = some [AV.v (Value.slice none 0 0)] ∧ flatK Try.prog 40 47 = none ∧ Try.prog.eqGuardType Try.prog.depth 47 = false := by
  refine ⟨?_, ?_, ?_, ?_, ?_, ?_, ?_, ?_, ?_, ?_, ?_, ?_, ?_, ?_, ?_⟩ <;> kernel_rfl
@[simp] theorem tj_48 :
    szOf Try.prog 48 = some 1 ∧ isAggT Try.prog 48 = some false ∧ isSl Try.prog 48 = none ∧ isArr Try.prog 48 = none ∧ isStr Try.prog 48 = false ∧ isInt Try.prog 48 = none ∧ isU8 Try.prog 48 = false ∧ isBool Try.prog 48 = false ∧ nkT Try.prog 48 = some NK.func ∧ (Try.prog.info? 48).map (·.bytes) = some 8 ∧ (Try.prog.underlying 48).isSome = true ∧ sizesOk Try.prog 48 = false ∧ zeroOf Try.prog 48 = some [AV.v Value.nilFunc] ∧ flatK Try.prog 40 48 = none ∧ Try.prog.eqGuardType Try.prog.depth 48 = false := by
  refine ⟨?_, ?_, ?_, ?_, ?_, ?_, ?_, ?_, ?_, ?_, ?_, ?_, ?_, ?_, ?_⟩ <;> kernel_rfl
@[simp] theorem tj_49 :
    szOf Try.prog 49 = some 1 ∧ isAggT Try.prog 49 = some false ∧ isSl Try.prog 49 = none ∧ isArr Try.prog 49 = none ∧ isStr Try.prog 49 = false ∧ isInt Try.prog 49 = none ∧ isU8 Try.prog 49 = false ∧ isBool Try.prog 49 = false ∧ nkT Try.prog 49 = some NK.func ∧ (Try.prog.info? 49).map (·.bytes) = some 8 ∧ (Try.prog.underlying 49).isSome = true ∧ sizesOk Try.prog 49 = false ∧ zeroOf Try.prog 49 = some [AV.v Value.nilFunc] ∧ flatK Try.prog 40 49 = none ∧ Try.prog.eqGuardType Try.prog.depth 49 = false := by
  refine ⟨?_, ?_, ?_, ?_, ?_, ?_, ?_, ?_, ?_, ?_, ?_, ?_, ?_, ?_, ?_⟩ <;> kernel_rfl
@[simp] theorem tj_50 :
    szOf Try.prog 50 = some 1 ∧ isAggT Try.prog 50 = some false ∧ isSl Try.prog 50 = none ∧ isArr Try.prog 50 = none ∧ isStr Try.prog 50 = false ∧ isInt Try.prog 50 = none ∧ isU8 Try.prog 50 = false ∧ isBool Try.prog 50 = false ∧ nkT Try.prog 50 = some NK.ptr ∧ (Try.prog.info? 50).map (·.bytes) = some 8 ∧ (Try.prog.underlying 50).isSome = true ∧ sizesOk Try.prog 50 = false ∧ zeroOf Try.prog 50 = some [AV.v (Value.pointer none)] ∧ flatK Try.prog 40 50 = none ∧ Try.prog.eqGuardType Try.prog.depth 50 = false := by
  refine ⟨?_, ?_, ?_, ?_, ?_, ?_, ?_, ?_, ?_, ?_, ?_, ?_, ?_, ?_, ?_⟩ <;> kernel_rfl
@[simp] theorem tj_51 :
    szOf Try.prog 51 = some 1 ∧ isAggT Try.prog 51 = some false ∧ isSl Try.prog 51 = none ∧ isArr Try.prog 51 = none ∧ isStr Try.prog 51 = false ∧ isInt Try.prog 51 = none ∧ isU8 Try.prog 51 = false ∧ isBool Try.prog 51 = false ∧ nkT Try.prog 51 = none ∧ (Try.prog.info? 51).map (·.bytes) = some 0 ∧ (Try.prog.underlying 51).isSome = true ∧ sizesOk Try.prog 51 = false ∧ flatK Try.prog 40 51 = none ∧ Try.prog.eqGuardType Try.prog.depth 51 = false := by
  refine ⟨?_, ?_, ?_, ?_, ?_, ?_, ?_, ?_, ?_, ?_, ?_, ?_, ?_, ?_⟩ <;> kernel_rfl
@[simp] theorem tj_52 :
    szOf Try.prog 52 = some 1 ∧ isAggT Try.prog 52 = some false ∧ isSl Try.prog 52 = none ∧ isArr Try.prog 52 = none ∧ isStr Try.prog 52 = false ∧ isInt Try.prog 52 = none ∧ isU8 Try.prog 52 = false ∧ isBool Try.prog 52 = false ∧ nkT Try.prog 52 = some NK.func ∧ (Try.prog.info? 52).map (·.bytes) = some 8 ∧ (Try.prog.underlying 52).isSome = true ∧ sizesOk Try.prog 52 = false ∧ zeroOf Try.prog 52 = some [AV.v Value.nilFunc] ∧ flatK Try.prog 40 52 = none ∧ Try.prog.eqGuardType Try.prog.depth 52 = false := by
  refine ⟨?_, ?_, ?_, ?_, ?_, ?_, ?_, ?_, ?_, ?_, ?_, ?_, ?_, ?_, ?_⟩ <;> kernel_rfl
@[simp] theorem tj_53 :
    szOf Try.prog 53 = some 1 ∧ isAggT Try.prog 53 = some false ∧ isSl Try.prog 53 = none ∧ isArr Try.prog 53 = none ∧ isStr Try.prog 53 = false ∧ isInt Try.prog 53 = none ∧ isU8 Try.prog 53 = false ∧ isBool Try.prog 53 = false ∧ nkT Try.prog 53 = some NK.func ∧ (Try.prog.info? 53).map (·.bytes) = some 8 ∧ (Try.prog.underlying 53).isSome = true ∧ sizesOk Try.prog 53 = false ∧ zeroOf Try.prog 53 = some [AV.v Value.nilFunc] ∧ flatK Try.prog 40 53 = none ∧ Try.prog.eqGuardType Try.prog.depth 53 = false := by
  refine ⟨?_, ?_, ?_, ?_, ?_, ?_, ?_, ?_, ?_, ?_, ?_, ?_, ?_, ?_, ?_⟩ <;> kernel_rfl
@[simp] theorem tj_54 :
    szOf Try.prog 54 = some 1 ∧ isAggT Try.prog 54 = some false ∧ isSl Try.prog 54 = none ∧ isArr Try.prog 54 = none ∧ isStr Try.prog 54 = false ∧ isInt Try.prog 54 = none ∧ isU8 Try.prog 54 = false ∧ isBool Try.prog 54 = false ∧ nkT Try.prog 54 = none ∧ (Try.prog.info? 54).map (·.bytes) = some 0 ∧ (Try.prog.underlying 54).isSome = true ∧ sizesOk Try.prog 54 = false ∧ flatK Try.prog 40 54 = none ∧ Try.prog.eqGuardType Try.prog.depth 54 = false := by
  refine ⟨?_, ?_, ?_, ?_, ?_, ?_, ?_, ?_, ?_, ?_, ?_, ?_, ?_, ?_⟩ <;> kernel_rfl
@[simp] theorem tj_55 :
    szOf Try.prog 55 = some 1 ∧ isAggT Try.prog 55 = some false ∧ isSl Try.prog 55 = none ∧ isArr Try.prog 55 = none ∧ isStr Try.prog 55 = false ∧ isInt Try.prog 55 = none ∧ isU8 Try.prog 55 = false ∧ isBool Try.prog 55 = false ∧ nkT Try.prog 55 = some NK.func ∧ (Try.prog.info? 55).map (·.bytes) = some 8 ∧ (Try.prog.underlying 55).isSome = true ∧ sizesOk Try.prog 55 = false ∧ zeroOf Try.prog 55 = some [AV.v Value.nilFunc] ∧ flatK Try.prog 40 55 = none ∧ Try.prog.eqGuardType Try.prog.depth 55 = false := by
  refine ⟨?_, ?_, ?_, ?_, ?_, ?_, ?_, ?_, ?_, ?_, ?_, ?_, ?_, ?_, ?_⟩ <;> kernel_rfl
@[simp] theorem tj_56 :
    szOf Try.prog 56 = some 1 ∧ isAggT Try.prog 56 = some false ∧ isSl Try.prog 56 = none ∧ isArr Try.prog 56 = none ∧ isStr Try.prog 56 = false ∧ isInt Try.prog 56 = none ∧ isU8 Try.prog 56 = false ∧ isBool Try.prog 56 = false ∧ nkT Try.prog 56 = some NK.func ∧ (Try.prog.info? 56).map (·.bytes) = some 8 ∧ (Try.prog.underlying 56).isSome = true ∧ sizesOk Try.prog 56 = false ∧ zeroOf Try.prog 56 = some [AV.v Value.nilFunc] ∧ flatK Try.prog 40 56 = none ∧ Try.prog.eqGuardType Try.prog.depth 56 = false := by
  refine ⟨?_, ?_, ?_, ?_, ?_, ?_, ?_, ?_, ?_, ?_, ?_, ?_, ?_, ?_, ?_⟩ <;> kernel_rfl
@[simp] theorem tj_57 :
    szOf Try.prog 57 = some 1 ∧ isAggT Try.prog 57 = some false ∧ isSl Try.prog 57 = some 9 ∧ isArr Try.prog 57 = none ∧ isStr Try.prog 57 = false ∧ isInt Try.prog 57 = none ∧ isU8 Try.prog 57 = false ∧ isBool Try.prog 57 = false ∧ nkT Try.prog 57 = some NK.slice ∧ (Try.prog.info? 57).map (·.bytes) = some 24 ∧ (Try.prog.underlying 57).isSome = true ∧ sizesOk Try.prog 57 = false ∧ zeroOf Try.prog 57 = some [AV.v (Value.slice none 0 0)] ∧ flatK Try.prog 40 57 = none ∧ Try.prog.eqGuardType Try.prog.depth 57 = false := by
  refine ⟨?_, ?_, ?_, ?_, ?_, ?_, ?_, ?_, ?_, ?_, ?_, ?_, ?_, ?_, ?_⟩ <;> kernel_rfl
@[simp] theorem tj_58 :
    szOf Try.prog 58 = some 1 ∧ isAggT Try.prog 58 = some false ∧ isSl Try.prog 58 = none ∧ isArr Try.prog 58 = none ∧ isStr Try.prog 58 = false ∧ isInt Try.prog 58 = none ∧ isU8 Try.prog 58 = false ∧ isBool Try.prog 58 = false ∧ nkT Try.prog 58 = some NK.func ∧ (Try.prog.info? 58).map (·.bytes) = some 8 ∧ (Try.prog.underlying 58).isSome = true ∧ sizesOk Try.prog 58 = false ∧ zeroOf Try.prog 58 = some [AV.v Value.nilFunc] ∧ flatK Try.prog 40 58 = none ∧ Try.prog.eqGuardType Try.prog.depth 58 = false := by
  refine ⟨?_, ?_, ?_, ?_, ?_, ?_, ?_, ?_, ?_, ?_, ?_, ?_, ?_, ?_, ?_⟩ <;> kernel_rfl
@[simp] theorem tj_59 :
    szOf Try.prog 59 = some 1 ∧ isAggT Try.prog 59 = some false ∧ isSl Try.prog 59 = none ∧ isArr Try.prog 59 = none ∧ isStr Try.prog 59 = false ∧ isInt Try.prog 59 = none ∧ isU8 Try.prog 59 = false ∧ isBool Try.prog 59 = false ∧ nkT Try.prog 59 = some NK.func ∧ (Try.prog.info? 59).map (·.bytes) = some 8 ∧ (Try.prog.underlying 59).isSome = true ∧ sizesOk Try.prog 59 = false ∧ zeroOf Try.prog 59 = some [AV.v Value.nilFunc] ∧ flatK Try.prog 40 59 = none ∧ Try.prog.eqGuardType Try.prog.depth 59 = false := by
  refine ⟨?_, ?_, ?_, ?_, ?_, ?_, ?_, ?_, ?_, ?_, ?_, ?_, ?_, ?_, ?_⟩ <;> kernel_rfl
@[simp] theorem tj_60 :
    szOf Try.prog 60 = some 1 ∧ isAggT Try.prog 60 = some false ∧ isSl Try.prog 60 = none ∧ isArr Try.prog 60 = none ∧ isStr Try.prog 60 = false ∧ isInt Try.prog 60 = none ∧ isU8 Try.prog 60 = false ∧ isBool Try.prog 60 = false ∧ nkT Try.prog 60 = some NK.func ∧ (Try.prog.info? 60).map (·.bytes) = some 8 ∧ (Try.prog.underlying 60).isSome = true ∧ sizesOk Try.prog 60 = false ∧ zeroOf Try.prog 60 = some [AV.v Value.nilFunc] ∧ flatK Try.prog 40 60 = none ∧ Try.prog.eqGuardType Try.prog.depth 60 = false := by
  refine ⟨?_, ?_, ?_, ?_, ?_, ?_, ?_, ?_, ?_, ?_, ?_, ?_, ?_, ?_, ?_⟩ <;> kernel_rfl
@[simp] theorem tj_61 :
    szOf Try.prog 61 = some 1 ∧ isAggT Try.prog 61 = some false ∧ isSl Try.prog 61 = none ∧ isArr Try.prog 61 = none ∧ isStr Try.prog 61 = false ∧ isInt Try.prog 61 = none ∧ isU8 Try.prog 61 = false ∧ isBool Try.prog 61 = false ∧ nkT Try.prog 61 = some NK.map ∧ (Try.prog.info? 61).map (·.bytes) = some 8 ∧ (Try.prog.underlying 61).isSome = true ∧ sizesOk Try.prog 61 = false ∧ zeroOf Try.prog 61 = some [AV.v (Value.map none)] ∧ flatK Try.prog 40 61 = none ∧ Try.prog.eqGuardType Try.prog.depth 61 = false ∧ isMap Try.prog 61 = some (9, 97) := by
  refine ⟨?_, ?_, ?_, ?_, ?_, ?_, ?_, ?_, ?_, ?_, ?_, ?_, ?_, ?_, ?_, ?_⟩ <;> kernel_rfl
@[simp] theorem tj_62 :
    szOf Try.prog 62 = some 2 ∧ isAggT Try.prog 62 = some true ∧ isSl Try.prog 62 = none ∧ isArr Try.prog 62 = none ∧ isStr Try.prog 62 = false ∧ isInt Try.prog 62 = none ∧ isU8 Try.prog 62 = false ∧ isBool Try.prog 62 = false ∧ nkT Try.prog 62 = none ∧ (Try.prog.info? 62).map (·.bytes) = some 16 ∧ (Try.prog.underlying 62).isSome = true ∧ sizesOk Try.prog 62 = true ∧ zeroOf Try.prog 62 = some [AV.v (Value.int IntKind.i64 (Int.ofNat 0)), AV.v (Value.map none)] ∧ flatK Try.prog 40 62 = none ∧ Try.prog.eqGuardType Try.prog.depth 62 = false := by
  refine ⟨?_, ?_, ?_, ?_, ?_, ?_, ?_, ?_, ?_, ?_, ?_, ?_, ?_, ?_, ?_⟩ <;> kernel_rfl
@[simp] theorem tb_fd62_0 : fieldOf Try.prog 62 0 = some (0, 3) := by kernel_rfl
@[simp] theorem tb_fd62_1 : fieldOf Try.prog 62 1 = some (1, 61) := by kernel_rfl
@[simp] theorem tj_63 :
    szOf Try.prog 63 = some 2 ∧ isAggT Try.prog 63 = some true ∧ isSl Try.prog 63 = none ∧ isArr Try.prog 63 = none ∧ isStr Try.prog 63 = false ∧ isInt Try.prog 63 = none ∧ isU8 Try.prog 63 = false ∧ isBool Try.prog 63 = false ∧ nkT Try.prog 63 = none ∧ (Try.prog.info? 63).map (·.bytes) = some 16 ∧ (Try.prog.underlying 63).isSome = true ∧ sizesOk Try.prog 63 = true ∧ zeroOf Try.prog 63 = some [AV.v (Value.int IntKind.i64 (Int.ofNat 0)), AV.v (Value.map none)] ∧ flatK Try.prog 40 63 = none ∧ Try.prog.eqGuardType Try.prog.depth 63 = false := by
  refine ⟨?_, ?_, ?_, ?_, ?_, ?_, ?_, ?_, ?_, ?_, ?_, ?_, ?_, ?_, ?_⟩ <;> kernel_rfl
@[simp] theorem tb_fd63_0 : fieldOf Try.prog 63 0 = some (0, 3) := by kernel_rfl
@[simp] theorem tb_fd63_1 : fieldOf Try.prog 63 1 = some (1, 61) := by kernel_rfl
@[simp] theorem tj_64 :
    szOf Try.prog 64 = some 1 ∧ isAggT Try.prog 64 = some false ∧ isSl Try.prog 64 = some 50 ∧ isArr Try.prog 64 = none ∧ isStr Try.prog 64 = false ∧ isInt Try.prog 64 = none ∧ isU8 Try.prog 64 = false ∧ isBool Try.prog 64 = false ∧ nkT Try.prog 64 = some NK.slice ∧ (Try.prog.info? 64).map (·.bytes) = some 24 ∧ (Try.prog.underlying 64).isSome = true ∧ sizesOk Try.prog 64 = false ∧ zeroOf Try.prog 64 = some [AV.v (Value.slice none 0 0)] ∧ flatK Try.prog 40 64 = none ∧ Try.prog.eqGuardType Try.prog.depth 64 = false := by
  refine ⟨?_, ?_, ?_, ?_, ?_, ?_, ?_, ?_, ?_, ?_, ?_, ?_, ?_, ?_, ?_⟩ <;> kernel_rfl
@[simp] theorem tj_65 :
    szOf Try.prog 65 = some 1 ∧ isAggT Try.prog 65 = some false ∧ isSl Try.prog 65 = none ∧ isArr Try.prog 65 = none ∧ isStr Try.prog 65 = false ∧ isInt Try.prog 65 = none ∧ isU8 Try.prog 65 = false ∧ isBool Try.prog 65 = false ∧ nkT Try.prog 65 = some NK.func ∧ (Try.prog.info? 65).map (·.bytes) = some 8 ∧ (Try.prog.underlying 65).isSome = true ∧ sizesOk Try.prog 65 = false ∧ zeroOf Try.prog 65 = some [AV.v Value.nilFunc] ∧ flatK Try.prog 40 65 = none ∧ Try.prog.eqGuardType Try.prog.depth 65 = false := by
  refine ⟨?_, ?_, ?_, ?_, ?_, ?_, ?_, ?_, ?_, ?_, ?_, ?_, ?_, ?_, ?_⟩ <;> kernel_rfl
@[simp] theorem tj_66 :
    szOf Try.prog 66 = some 1 ∧ isAggT Try.prog 66 = some false ∧ isSl Try.prog 66 = none ∧ isArr Try.prog 66 = none ∧ isStr Try.prog 66 = false ∧ isInt Try.prog 66 = none ∧ isU8 Try.prog 66 = false ∧ isBool Try.prog 66 = false ∧ nkT Try.prog 66 = some NK.func ∧ (Try.prog.info? 66).map (·.bytes) = some 8 ∧ (Try.prog.underlying 66).isSome = true ∧ sizesOk Try.prog 66 = false ∧ zeroOf Try.prog 66 = some [AV.v Value.nilFunc] ∧ flatK Try.prog 40 66 = none ∧ Try.prog.eqGuardType Try.prog.depth 66 = false := by
  refine ⟨?_, ?_, ?_, ?_, ?_, ?_, ?_, ?_, ?_, ?_, ?_, ?_, ?_, ?_, ?_⟩ <;> kernel_rfl
@[simp] theorem tj_67 :
    szOf Try.prog 67 = some 1 ∧ isAggT Try.prog 67 = some false ∧ isSl Try.prog 67 = none ∧ isArr Try.prog 67 = none ∧ isStr Try.prog 67 = false ∧ isInt Try.prog 67 = none ∧ isU8 Try.prog 67 = false ∧ isBool Try.prog 67 = false ∧ nkT Try.prog 67 = some NK.func ∧ (Try.prog.info? 67).map (·.bytes) = some 8 ∧ (Try.prog.underlying 67).isSome = true ∧ sizesOk Try.prog 67 = false ∧ zeroOf Try.prog 67 = some [AV.v Value.nilFunc] ∧ flatK Try.prog 40 67 = none ∧ Try.prog.eqGuardType Try.prog.depth 67 = false := by
  refine ⟨?_, ?_, ?_, ?_, ?_, ?_, ?_, ?_, ?_, ?_, ?_, ?_, ?_, ?_, ?_⟩ <;> kernel_rfl
@[simp] theorem tj_68 :
    szOf Try.prog 68 = some 1 ∧ isAggT Try.prog 68 = some false ∧ isSl Try.prog 68 = some 74 ∧ isArr Try.prog 68 = none ∧ isStr Try.prog 68 = false ∧ isInt Try.prog 68 = none ∧ isU8 Try.prog 68 = false ∧ isBool Try.prog 68 = false ∧ nkT Try.prog 68 = some NK.slice ∧ (Try.prog.info? 68).map (·.bytes) = some 24 ∧ (Try.prog.underlying 68).isSome = true ∧ sizesOk Try.prog 68 = false ∧ zeroOf Try.prog 68 = some [AV.v (Value.slice none 0 0)] ∧ flatK Try.prog 40 68 = none ∧ Try.prog.eqGuardType Try.prog.depth 68 = false := by
  refine ⟨?_, ?_, ?_, ?_, ?_, ?_, ?_, ?_, ?_, ?_, ?_, ?_, ?_, ?_, ?_⟩ <;> kernel_rfl
@[simp] theorem tj_69 :
    szOf Try.prog 69 = some 1 ∧ isAggT Try.prog 69 = some false ∧ isSl Try.prog 69 = none ∧ isArr Try.prog 69 = none ∧ isStr Try.prog 69 = false ∧ isInt Try.prog 69 = none ∧ isU8 Try.prog 69 = false ∧ isBool Try.prog 69 = false ∧ nkT Try.prog 69 = some NK.ptr ∧ (Try.prog.info? 69).map (·.bytes) = some 8 ∧ (Try.prog.underlying 69).isSome = true ∧ sizesOk Try.prog 69 = false ∧ zeroOf Try.prog 69 = some [AV.v (Value.pointer none)] ∧ flatK Try.prog 40 69 = none ∧ Try.prog.eqGuardType Try.prog.depth 69 = false := by
  refine ⟨?_, ?_, ?_, ?_, ?_, ?_, ?_, ?_, ?_, ?_, ?_, ?_, ?_, ?_, ?_⟩ <;> kernel_rfl
@[simp] theorem tj_70 :
    szOf Try.prog 70 = some 1 ∧ isAggT Try.prog 70 = some false ∧ isSl Try.prog 70 = some 77 ∧ isArr Try.prog 70 = none ∧ isStr Try.prog 70 = false ∧ isInt Try.prog 70 = none ∧ isU8 Try.prog 70 = false ∧ isBool Try.prog 70 = false ∧ nkT Try.prog 70 = some NK.slice ∧ (Try.prog.info? 70).map (·.bytes) = some 24 ∧ (Try.prog.underlying 70).isSome = true ∧ sizesOk Try.prog 70 = false ∧ zeroOf Try.prog 70 = some [AV.v (Value.slice none 0 0)] ∧ flatK Try.prog 40 70 = none ∧ Try.prog.eqGuardType Try.prog.depth 70 = false := by
  refine ⟨?_, ?_, ?_, ?_, ?_, ?_, ?_, ?_, ?_, ?_, ?_, ?_, ?_, ?_, ?_⟩ <;> kernel_rfl
@[simp] theorem tj_71 :
    szOf Try.prog 71 = some 2 ∧ isAggT Try.prog 71 = some true ∧ isSl Try.prog 71 = none ∧ isArr Try.prog 71 = none ∧ isStr Try.prog 71 = false ∧ isInt Try.prog 71 = none ∧ isU8 Try.prog 71 = false ∧ isBool Try.prog 71 = false ∧ nkT Try.prog 71 = none ∧ (Try.prog.info? 71).map (·.bytes) = some 32 ∧ (Try.prog.underlying 71).isSome = true ∧ sizesOk Try.prog 71 = true ∧ zeroOf Try.prog 71 = some [AV.v (Value.slice none 0 0), AV.v (Value.int IntKind.i64 (Int.ofNat 0))] ∧ flatK Try.prog 40 71 = none ∧ Try.prog.eqGuardType Try.prog.depth 71 = false := by
  refine ⟨?_, ?_, ?_, ?_, ?_, ?_, ?_, ?_, ?_, ?_, ?_, ?_, ?_, ?_, ?_⟩ <;> kernel_rfl
@[simp] theorem tb_fd71_0 : fieldOf Try.prog 71 0 = some (0, 70) := by kernel_rfl
@[simp] theorem tb_fd71_1 : fieldOf Try.prog 71 1 = some (1, 3) := by kernel_rfl
@[simp] theorem tj_72 :
    szOf Try.prog 72 = some 2 ∧ isAggT Try.prog 72 = some true ∧ isSl Try.prog 72 = none ∧ isArr Try.prog 72 = none ∧ isStr Try.prog 72 = false ∧ isInt Try.prog 72 = none ∧ isU8 Try.prog 72 = false ∧ isBool Try.prog 72 = false ∧ nkT Try.prog 72 = none ∧ (Try.prog.info? 72).map (·.bytes) = some 32 ∧ (Try.prog.underlying 72).isSome = true ∧ sizesOk Try.prog 72 = true ∧ zeroOf Try.prog 72 = some [AV.v (Value.slice none 0 0), AV.v (Value.int IntKind.i64 (Int.ofNat 0))] ∧ flatK Try.prog 40 72 = none ∧ Try.prog.eqGuardType Try.prog.depth 72 = false := by
  refine ⟨?_, ?_, ?_, ?_, ?_, ?_, ?_, ?_, ?_, ?_, ?_, ?_, ?_, ?_, ?_⟩ <;> kernel_rfl
@[simp] theorem tb_fd72_0 : fieldOf Try.prog 72 0 = some (0, 70) := by kernel_rfl
@[simp] theorem tb_fd72_1 : fieldOf Try.prog 72 1 = some (1, 3) := by kernel_rfl
@[simp] theorem tj_73 :
    szOf Try.prog 73 = some 4 ∧ isAggT Try.prog 73 = some true ∧ isSl Try.prog 73 = none ∧ isArr Try.prog 73 = none ∧ isStr Try.prog 73 = false ∧ isInt Try.prog 73 = none ∧ isU8 Try.prog 73 = false ∧ isBool Try.prog 73 = false ∧ nkT Try.prog 73 = none ∧ (Try.prog.info? 73).map (·.bytes) = some 40 ∧ (Try.prog.underlying 73).isSome = true ∧ sizesOk Try.prog 73 = true ∧ zeroOf Try.prog 73 = some [AV.v (Value.int IntKind.i64 (Int.ofNat 0)), AV.v (Value.int IntKind.i64 (Int.ofNat 0)), AV.v (Value.int IntKind.i64 (Int.ofNat 0)), AV.v (Value.string { data := #[] })] ∧ flatK Try.prog 40 73 = some [LK.int, LK.int, LK.int, LK.str] ∧ Try.prog.eqGuardType Try.prog.depth 73 = false := by
  refine ⟨?_, ?_, ?_, ?_, ?_, ?_, ?_, ?_, ?_, ?_, ?_, ?_, ?_, ?_, ?_⟩ <;> kernel_rfl
@[simp] theorem tb_fd73_0 : fieldOf Try.prog 73 0 = some (0, 3) := by kernel_rfl
@[simp] theorem tb_fd73_1 : fieldOf Try.prog 73 1 = some (1, 3) := by kernel_rfl
@[simp] theorem tb_fd73_2 : fieldOf Try.prog 73 2 = some (2, 3) := by kernel_rfl
@[simp] theorem tb_fd73_3 : fieldOf Try.prog 73 3 = some (3, 9) := by kernel_rfl
@[simp] theorem tj_74 :
    szOf Try.prog 74 = some 4 ∧ isAggT Try.prog 74 = some true ∧ isSl Try.prog 74 = none ∧ isArr Try.prog 74 = none ∧ isStr Try.prog 74 = false ∧ isInt Try.prog 74 = none ∧ isU8 Try.prog 74 = false ∧ isBool Try.prog 74 = false ∧ nkT Try.prog 74 = none ∧ (Try.prog.info? 74).map (·.bytes) = some 40 ∧ (Try.prog.underlying 74).isSome = true ∧ sizesOk Try.prog 74 = true ∧ zeroOf Try.prog 74 = some [AV.v (Value.int IntKind.i64 (Int.ofNat 0)), AV.v (Value.int IntKind.i64 (Int.ofNat 0)), AV.v (Value.int IntKind.i64 (Int.ofNat 0)), AV.v (Value.string { data := #[] })] ∧ flatK Try.prog 40 74 = some [LK.int, LK.int, LK.int, LK.str] ∧ Try.prog.eqGuardType Try.prog.depth 74 = false := by
  refine ⟨?_, ?_, ?_, ?_, ?_, ?_, ?_, ?_, ?_, ?_, ?_, ?_, ?_, ?_, ?_⟩ <;> kernel_rfl
@[simp] theorem tb_fd74_0 : fieldOf Try.prog 74 0 = some (0, 3) := by kernel_rfl
@[simp] theorem tb_fd74_1 : fieldOf Try.prog 74 1 = some (1, 3) := by kernel_rfl
@[simp] theorem tb_fd74_2 : fieldOf Try.prog 74 2 = some (2, 3) := by kernel_rfl
@[simp] theorem tb_fd74_3 : fieldOf Try.prog 74 3 = some (3, 9) := by kernel_rfl
@[simp] theorem tj_75 :
    szOf Try.prog 75 = some 1 ∧ isAggT Try.prog 75 = some false ∧ isSl Try.prog 75 = none ∧ isArr Try.prog 75 = none ∧ isStr Try.prog 75 = false ∧ isInt Try.prog 75 = none ∧ isU8 Try.prog 75 = false ∧ isBool Try.prog 75 = false ∧ nkT Try.prog 75 = some NK.func ∧ (Try.prog.info? 75).map (·.bytes) = some 8 ∧ (Try.prog.underlying 75).isSome = true ∧ sizesOk Try.prog 75 = false ∧ zeroOf Try.prog 75 = some [AV.v Value.nilFunc] ∧ flatK Try.prog 40 75 = none ∧ Try.prog.eqGuardType Try.prog.depth 75 = false := by
  refine ⟨?_, ?_, ?_, ?_, ?_, ?_, ?_, ?_, ?_, ?_, ?_, ?_, ?_, ?_, ?_⟩ <;> kernel_rfl
@[simp] theorem tj_76 :
    szOf Try.prog 76 = some 3 ∧ isAggT Try.prog 76 = some true ∧ isSl Try.prog 76 = none ∧ isArr Try.prog 76 = none ∧ isStr Try.prog 76 = false ∧ isInt Try.prog 76 = none ∧ isU8 Try.prog 76 = false ∧ isBool Try.prog 76 = false ∧ nkT Try.prog 76 = none ∧ (Try.prog.info? 76).map (·.bytes) = some 32 ∧ (Try.prog.underlying 76).isSome = true ∧ sizesOk Try.prog 76 = true ∧ zeroOf Try.prog 76 = some [AV.v (Value.string { data := #[] }), AV.v (Value.int IntKind.i64 (Int.ofNat 0)), AV.v (Value.int IntKind.i64 (Int.ofNat 0))] ∧ flatK Try.prog 40 76 = some [LK.str, LK.int, LK.int] ∧ Try.prog.eqGuardType Try.prog.depth 76 = false := by
  refine ⟨?_, ?_, ?_, ?_, ?_, ?_, ?_, ?_, ?_, ?_, ?_, ?_, ?_, ?_, ?_⟩ <;> kernel_rfl
@[simp] theorem tb_fd76_0 : fieldOf Try.prog 76 0 = some (0, 9) := by kernel_rfl
@[simp] theorem tb_fd76_1 : fieldOf Try.prog 76 1 = some (1, 3) := by kernel_rfl
@[simp] theorem tb_fd76_2 : fieldOf Try.prog 76 2 = some (2, 3) := by kernel_rfl
@[simp] theorem tj_77 :
    szOf Try.prog 77 = some 3 ∧ isAggT Try.prog 77 = some true ∧ isSl Try.prog 77 = none ∧ isArr Try.prog 77 = none ∧ isStr Try.prog 77 = false ∧ isInt Try.prog 77 = none ∧ isU8 Try.prog 77 = false ∧ isBool Try.prog 77 = false ∧ nkT Try.prog 77 = none ∧ (Try.prog.info? 77).map (·.bytes) = some 32 ∧ (Try.prog.underlying 77).isSome = true ∧ sizesOk Try.prog 77 = true ∧ zeroOf Try.prog 77 = some [AV.v (Value.string { data := #[] }), AV.v (Value.int IntKind.i64 (Int.ofNat 0)), AV.v (Value.int IntKind.i64 (Int.ofNat 0))] ∧ flatK Try.prog 40 77 = some [LK.str, LK.int, LK.int] ∧ Try.prog.eqGuardType Try.prog.depth 77 = false := by
  refine ⟨?_, ?_, ?_, ?_, ?_, ?_, ?_, ?_, ?_, ?_, ?_, ?_, ?_, ?_, ?_⟩ <;> kernel_rfl
@[simp] theorem tb_fd77_0 : fieldOf Try.prog 77 0 = some (0, 9) := by kernel_rfl
@[simp] theorem tb_fd77_1 : fieldOf Try.prog 77 1 = some (1, 3) := by kernel_rfl
@[simp] theorem tb_fd77_2 : fieldOf Try.prog 77 2 = some (2, 3) := by kernel_rfl
@[simp] theorem tj_78 :
    szOf Try.prog 78 = some 1 ∧ isAggT Try.prog 78 = some false ∧ isSl Try.prog 78 = none ∧ isArr Try.prog 78 = none ∧ isStr Try.prog 78 = false ∧ isInt Try.prog 78 = none ∧ isU8 Try.prog 78 = false ∧ isBool Try.prog 78 = false ∧ nkT Try.prog 78 = some NK.func ∧ (Try.prog.info? 78).map (·.bytes) = some 8 ∧ (Try.prog.underlying 78).isSome = true ∧ sizesOk Try.prog 78 = false ∧ zeroOf Try.prog 78 = some [AV.v Value.nilFunc] ∧ flatK Try.prog 40 78 = none ∧ Try.prog.eqGuardType Try.prog.depth 78 = false := by
  refine ⟨?_, ?_, ?_, ?_, ?_, ?_, ?_, ?_, ?_, ?_, ?_, ?_, ?_, ?_, ?_⟩ <;> kernel_rfl
@[simp] theorem tj_79 :
    szOf Try.prog 79 = some 1 ∧ isAggT Try.prog 79 = some false ∧ isSl Try.prog 79 = none ∧ isArr Try.prog 79 = none ∧ isStr Try.prog 79 = false ∧ isInt Try.prog 79 = none ∧ isU8 Try.prog 79 = false ∧ isBool Try.prog 79 = false ∧ nkT Try.prog 79 = some NK.func ∧ (Try.prog.info? 79).map (·.bytes) = some 8 ∧ (Try.prog.underlying 79).isSome = true ∧ sizesOk Try.prog 79 = false ∧ zeroOf Try.prog 79 = some [AV.v Value.nilFunc] ∧ flatK Try.prog 40 79 = none ∧ Try.prog.eqGuardType Try.prog.depth 79 = false := by
  refine ⟨?_, ?_, ?_, ?_, ?_, ?_, ?_, ?_, ?_, ?_, ?_, ?_, ?_, ?_, ?_⟩ <;> kernel_rfl
@[simp] theorem tj_80 :
    szOf Try.prog 80 = some 1 ∧ isAggT Try.prog 80 = some false ∧ isSl Try.prog 80 = none ∧ isArr Try.prog 80 = none ∧ isStr Try.prog 80 = false ∧ isInt Try.prog 80 = none ∧ isU8 Try.prog 80 = false ∧ isBool Try.prog 80 = false ∧ nkT Try.prog 80 = some NK.func ∧ (Try.prog.info? 80).map (·.bytes) = some 8 ∧ (Try.prog.underlying 80).isSome = true ∧ sizesOk Try.prog 80 = false ∧ zeroOf Try.prog 80 = some [AV.v Value.nilFunc] ∧ flatK Try.prog 40 80 = none ∧ Try.prog.eqGuardType Try.prog.depth 80 = false := by
  refine ⟨?_, ?_, ?_, ?_, ?_, ?_, ?_, ?_, ?_, ?_, ?_, ?_, ?_, ?_, ?_⟩ <;> kernel_rfl
@[simp] theorem tj_81 :
    szOf Try.prog 81 = some 1 ∧ isAggT Try.prog 81 = some false ∧ isSl Try.prog 81 = none ∧ isArr Try.prog 81 = none ∧ isStr Try.prog 81 = false ∧ isInt Try.prog 81 = none ∧ isU8 Try.prog 81 = false ∧ isBool Try.prog 81 = false ∧ nkT Try.prog 81 = some NK.func ∧ (Try.prog.info? 81).map (·.bytes) = some 8 ∧ (Try.prog.underlying 81).isSome = true ∧ sizesOk Try.prog 81 = false ∧ zeroOf Try.prog 81 = some [AV.v Value.nilFunc] ∧ flatK Try.prog 40 81 = none ∧ Try.prog.eqGuardType Try.prog.depth 81 = false := by
  refine ⟨?_, ?_, ?_, ?_, ?_, ?_, ?_, ?_, ?_, ?_, ?_, ?_, ?_, ?_, ?_⟩ <;> kernel_rfl
@[simp] theorem tj_82 :
    szOf Try.prog 82 = some 1 ∧ isAggT Try.prog 82 = some false ∧ isSl Try.prog 82 = none ∧ isArr Try.prog 82 = none ∧ isStr Try.prog 82 = false ∧ isInt Try.prog 82 = none ∧ isU8 Try.prog 82 = false ∧ isBool Try.prog 82 = false ∧ nkT Try.prog 82 = none ∧ (Try.prog.info? 82).map (·.bytes) = some 0 ∧ (Try.prog.underlying 82).isSome = true ∧ sizesOk Try.prog 82 = false ∧ flatK Try.prog 40 82 = none ∧ Try.prog.eqGuardType Try.prog.depth 82 = false := by
  refine ⟨?_, ?_, ?_, ?_, ?_, ?_, ?_, ?_, ?_, ?_, ?_, ?_, ?_, ?_⟩ <;> kernel_rfl
@[simp] theorem tj_83 :
    szOf Try.prog 83 = some 1 ∧ isAggT Try.prog 83 = some false ∧ isSl Try.prog 83 = none ∧ isArr Try.prog 83 = none ∧ isStr Try.prog 83 = false ∧ isInt Try.prog 83 = none ∧ isU8 Try.prog 83 = false ∧ isBool Try.prog 83 = false ∧ nkT Try.prog 83 = some NK.func ∧ (Try.prog.info? 83).map (·.bytes) = some 8 ∧ (Try.prog.underlying 83).isSome = true ∧ sizesOk Try.prog 83 = false ∧ zeroOf Try.prog 83 = some [AV.v Value.nilFunc] ∧ flatK Try.prog 40 83 = none ∧ Try.prog.eqGuardType Try.prog.depth 83 = false := by
  refine ⟨?_, ?_, ?_, ?_, ?_, ?_, ?_, ?_, ?_, ?_, ?_, ?_, ?_, ?_, ?_⟩ <;> kernel_rfl
@[simp] theorem tj_84 :
    szOf Try.prog 84 = some 1 ∧ isAggT Try.prog 84 = some false ∧ isSl Try.prog 84 = none ∧ isArr Try.prog 84 = none ∧ isStr Try.prog 84 = false ∧ isInt Try.prog 84 = none ∧ isU8 Try.prog 84 = false ∧ isBool Try.prog 84 = false ∧ nkT Try.prog 84 = some NK.func ∧ (Try.prog.info? 84).map (·.bytes) = some 8 ∧ (Try.prog.underlying 84).isSome = true ∧ sizesOk Try.prog 84 = false ∧ zeroOf Try.prog 84 = some [AV.v Value.nilFunc] ∧ flatK Try.prog 40 84 = none ∧ Try.prog.eqGuardType Try.prog.depth 84 = false := by
  refine ⟨?_, ?_, ?_, ?_, ?_, ?_, ?_, ?_, ?_, ?_, ?_, ?_, ?_, ?_, ?_⟩ <;> kernel_rfl
@[simp] theorem tj_85 :
    szOf Try.prog 85 = some 39 ∧ isAggT Try.prog 85 = some true ∧ isSl Try.prog 85 = none ∧ isArr Try.prog 85 = none ∧ isStr Try.prog 85 = false ∧ isInt Try.prog 85 = none ∧ isU8 Try.prog 85 = false ∧ isBool Try.prog 85 = false ∧ nkT Try.prog 85 = none ∧ (Try.prog.info? 85).map (·.bytes) = some 72 ∧ (Try.prog.underlying 85).isSome = true ∧ sizesOk Try.prog 85 = true ∧ zeroOf Try.prog 85 = some [AV.v (Value.bool false), AV.v (Value.bool false), AV.v (Value.int IntKind.u8 (Int.ofNat 0)), AV.v (Value.int IntKind.u8 (Int.ofNat 0)), AV.v (Value.int IntKind.u8 (Int.ofNat 0)), AV.v (Value.int IntKind.u8 (Int.ofNat 0)), AV.v (Value.int IntKind.u8 (Int.ofNat 0)), AV.v (Value.int IntKind.u8 (Int.ofNat 0)), AV.v (Value.int IntKind.u8 (Int.ofNat 0)), AV.v (Value.int IntKind.u8 (Int.ofNat 0)), AV.v (Value.int IntKind.u8 (Int.ofNat 0)), AV.v (Value.int IntKind.u8 (Int.ofNat 0)), AV.v (Value.int IntKind.u8 (Int.ofNat 0)), AV.v (Value.int IntKind.u8 (Int.ofNat 0)), AV.v (Value.int IntKind.u8 (Int.ofNat 0)), AV.v (Value.int IntKind.u8 (Int.ofNat 0)), AV.v (Value.int IntKind.u8 (Int.ofNat 0)), AV.v (Value.int IntKind.u8 (Int.ofNat 0)), AV.v (Value.int IntKind.u8 (Int.ofNat 0)), AV.v (Value.int IntKind.u8 (Int.ofNat 0)), AV.v (Value.int IntKind.u8 (Int.ofNat 0)), AV.v (Value.int IntKind.u8 (Int.ofNat 0)), AV.v (Value.int IntKind.u8 (Int.ofNat 0)), AV.v (Value.int IntKind.u8 (Int.ofNat 0)), AV.v (Value.int IntKind.u8 (Int.ofNat 0)), AV.v (Value.int IntKind.u8 (Int.ofNat 0)), AV.v (Value.int IntKind.u8 (Int.ofNat 0)), AV.v (Value.int IntKind.u8 (Int.ofNat 0)), AV.v (Value.int IntKind.u8 (Int.ofNat 0)), AV.v (Value.int IntKind.u8 (Int.ofNat 0)), AV.v (Value.int IntKind.u8 (Int.ofNat 0)), AV.v (Value.int IntKind.u8 (Int.ofNat 0)), AV.v (Value.int IntKind.u8 (Int.ofNat 0)), AV.v (Value.int IntKind.u8 (Int.ofNat 0)), AV.v (Value.int IntKind.u8 (Int.ofNat 0)), AV.v (Value.int IntKind.u16 (Int.ofNat 0)), AV.v (Value.int IntKind.u16 (Int.ofNat 0)), AV.v (Value.slice none 0 0), AV.v (Value.int IntKind.u64 (Int.ofNat 0))] ∧ flatK Try.prog 40 85 = none ∧ Try.prog.eqGuardType Try.prog.depth 85 = false := by
  refine ⟨?_, ?_, ?_, ?_, ?_, ?_, ?_, ?_, ?_, ?_, ?_, ?_, ?_, ?_, ?_⟩ <;> kernel_rfl
@[simp] theorem tb_fd85_0 : fieldOf Try.prog 85 0 = some (0, 4) := by kernel_rfl
@[simp] theorem tb_fd85_1 : fieldOf Try.prog 85 1 = some (1, 38) := by kernel_rfl
@[simp] theorem tb_fd85_2 : fieldOf Try.prog 85 2 = some (37, 35) := by kernel_rfl
@[simp] theorem tb_fd85_3 : fieldOf Try.prog 85 3 = some (38, 43) := by kernel_rfl
@[simp] theorem tj_86 :
    szOf Try.prog 86 = some 39 ∧ isAggT Try.prog 86 = some true ∧ isSl Try.prog 86 = none ∧ isArr Try.prog 86 = none ∧ isStr Try.prog 86 = false ∧ isInt Try.prog 86 = none ∧ isU8 Try.prog 86 = false ∧ isBool Try.prog 86 = false ∧ nkT Try.prog 86 = none ∧ (Try.prog.info? 86).map (·.bytes) = some 72 ∧ (Try.prog.underlying 86).isSome = true ∧ sizesOk Try.prog 86 = true ∧ zeroOf Try.prog 86 = some [AV.v (Value.bool false), AV.v (Value.bool false), AV.v (Value.int IntKind.u8 (Int.ofNat 0)), AV.v (Value.int IntKind.u8 (Int.ofNat 0)), AV.v (Value.int IntKind.u8 (Int.ofNat 0)), AV.v (Value.int IntKind.u8 (Int.ofNat 0)), AV.v (Value.int IntKind.u8 (Int.ofNat 0)), AV.v (Value.int IntKind.u8 (Int.ofNat 0)), AV.v (Value.int IntKind.u8 (Int.ofNat 0)), AV.v (Value.int IntKind.u8 (Int.ofNat 0)), AV.v (Value.int IntKind.u8 (Int.ofNat 0)), AV.v (Value.int IntKind.u8 (Int.ofNat 0)), AV.v (Value.int IntKind.u8 (Int.ofNat 0)), AV.v (Value.int IntKind.u8 (Int.ofNat 0)), AV.v (Value.int IntKind.u8 (Int.ofNat 0)), AV.v (Value.int IntKind.u8 (Int.ofNat 0)), AV.v (Value.int IntKind.u8 (Int.ofNat 0)), AV.v (Value.int IntKind.u8 (Int.ofNat 0)), AV.v (Value.int IntKind.u8 (Int.ofNat 0)), AV.v (Value.int IntKind.u8 (Int.ofNat 0)), AV.v (Value.int IntKind.u8 (Int.ofNat 0)), AV.v (Value.int IntKind.u8 (Int.ofNat 0)), AV.v (Value.int IntKind.u8 (Int.ofNat 0)), AV.v (Value.int IntKind.u8 (Int.ofNat 0)), AV.v (Value.int IntKind.u8 (Int.ofNat 0)), AV.v (Value.int IntKind.u8 (Int.ofNat 0)), AV.v (Value.int IntKind.u8 (Int.ofNat 0)), AV.v (Value.int IntKind.u8 (Int.ofNat 0)), AV.v (Value.int IntKind.u8 (Int.ofNat 0)), AV.v (Value.int IntKind.u8 (Int.ofNat 0)), AV.v (Value.int IntKind.u8 (Int.ofNat 0)), AV.v (Value.int IntKind.u8 (Int.ofNat 0)), AV.v (Value.int IntKind.u8 (Int.ofNat 0)), AV.v (Value.int IntKind.u8 (Int.ofNat 0)), AV.v (Value.int IntKind.u8 (Int.ofNat 0)), AV.v (Value.int IntKind.u16 (Int.ofNat 0)), AV.v (Value.int IntKind.u16 (Int.ofNat 0)), AV.v (Value.slice none 0 0), AV.v (Value.int IntKind.u64 (Int.ofNat 0))] ∧ flatK Try.prog 40 86 = none ∧ Try.prog.eqGuardType Try.prog.depth 86 = false ∧ zeroV Try.prog 86 = some (AV.agg [AV.v (Value.bool false), AV.v (Value.bool false), AV.v (Value.int IntKind.u8 (Int.ofNat 0)), AV.v (Value.int IntKind.u8 (Int.ofNat 0)), AV.v (Value.int IntKind.u8 (Int.ofNat 0)), AV.v (Value.int IntKind.u8 (Int.ofNat 0)), AV.v (Value.int IntKind.u8 (Int.ofNat 0)), AV.v (Value.int IntKind.u8 (Int.ofNat 0)), AV.v (Value.int IntKind.u8 (Int.ofNat 0)), AV.v (Value.int IntKind.u8 (Int.ofNat 0)), AV.v (Value.int IntKind.u8 (Int.ofNat 0)), AV.v (Value.int IntKind.u8 (Int.ofNat 0)), AV.v (Value.int IntKind.u8 (Int.ofNat 0)), AV.v (Value.int IntKind.u8 (Int.ofNat 0)), AV.v (Value.int IntKind.u8 (Int.ofNat 0)), AV.v (Value.int IntKind.u8 (Int.ofNat 0)), AV.v (Value.int IntKind.u8 (Int.ofNat 0)), AV.v (Value.int IntKind.u8 (Int.ofNat 0)), AV.v (Value.int IntKind.u8 (Int.ofNat 0)), AV.v (Value.int IntKind.u8 (Int.ofNat 0)), AV.v (Value.int IntKind.u8 (Int.ofNat 0)), AV.v (Value.int IntKind.u8 (Int.ofNat 0)), AV.v (Value.int IntKind.u8 (Int.ofNat 0)), AV.v (Value.int IntKind.u8 (Int.ofNat 0)), AV.v (Value.int IntKind.u8 (Int.ofNat 0)), AV.v (Value.int IntKind.u8 (Int.ofNat 0)), AV.v (Value.int IntKind.u8 (Int.ofNat 0)), AV.v (Value.int IntKind.u8 (Int.ofNat 0)), AV.v (Value.int IntKind.u8 (Int.ofNat 0)), AV.v (Value.int IntKind.u8 (Int.ofNat 0)), AV.v (Value.int IntKind.u8 (Int.ofNat 0)), AV.v (Value.int IntKind.u8 (Int.ofNat 0)), AV.v (Value.int IntKind.u8 (Int.ofNat 0)), AV.v (Value.int IntKind.u8 (Int.ofNat 0)), AV.v (Value.int IntKind.u8 (Int.ofNat 0)), AV.v (Value.int IntKind.u16 (Int.ofNat 0)), AV.v (Value.int IntKind.u16 (Int.ofNat 0)), AV.v (Value.slice none 0 0), AV.v (Value.int IntKind.u64 (Int.ofNat 0))]) := by
  refine ⟨?_, ?_, ?_, ?_, ?_, ?_, ?_, ?_, ?_, ?_, ?_, ?_, ?_, ?_, ?_, ?_⟩ <;> kernel_rfl
@[simp] theorem tb_fd86_0 : fieldOf Try.prog 86 0 = some (0, 4) := by kernel_rfl
@[simp] theorem tb_fd86_1 : fieldOf Try.prog 86 1 = some (1, 38) := by kernel_rfl
@[simp] theorem tb_fd86_2 : fieldOf Try.prog 86 2 = some (37, 35) := by kernel_rfl
@[simp] theorem tb_fd86_3 : fieldOf Try.prog 86 3 = some (38, 43) := by kernel_rfl
@[simp] theorem tj_87 :
    szOf Try.prog 87 = some 1 ∧ isAggT Try.prog 87 = some false ∧ isSl Try.prog 87 = none ∧ isArr Try.prog 87 = none ∧ isStr Try.prog 87 = false ∧ isInt Try.prog 87 = none ∧ isU8 Try.prog 87 = false ∧ isBool Try.prog 87 = false ∧ nkT Try.prog 87 = none ∧ (Try.prog.info? 87).map (·.bytes) = some 0 ∧ (Try.prog.underlying 87).isSome = true ∧ sizesOk Try.prog 87 = false ∧ flatK Try.prog 40 87 = none ∧ Try.prog.eqGuardType Try.prog.depth 87 = false := by
  refine ⟨?_, ?_, ?_, ?_, ?_, ?_, ?_, ?_, ?_, ?_, ?_, ?_, ?_, ?_⟩ <;> kernel_rfl
@[simp] theorem tj_88 :
    szOf Try.prog 88 = some 1 ∧ isAggT Try.prog 88 = some false ∧ isSl Try.prog 88 = none ∧ isArr Try.prog 88 = none ∧ isStr Try.prog 88 = false ∧ isInt Try.prog 88 = none ∧ isU8 Try.prog 88 = false ∧ isBool Try.prog 88 = false ∧ nkT Try.prog 88 = none ∧ (Try.prog.info? 88).map (·.bytes) = some 0 ∧ (Try.prog.underlying 88).isSome = true ∧ sizesOk Try.prog 88 = false ∧ flatK Try.prog 40 88 = none ∧ Try.prog.eqGuardType Try.prog.depth 88 = false := by
  refine ⟨?_, ?_, ?_, ?_, ?_, ?_, ?_, ?_, ?_, ?_, ?_, ?_, ?_, ?_⟩ <;> kernel_rfl
@[simp] theorem tj_89 :
    szOf Try.prog 89 = some 1 ∧ isAggT Try.prog 89 = some false ∧ isSl Try.prog 89 = none ∧ isArr Try.prog 89 = none ∧ isStr Try.prog 89 = false ∧ isInt Try.prog 89 = none ∧ isU8 Try.prog 89 = false ∧ isBool Try.prog 89 = false ∧ nkT Try.prog 89 = some NK.func ∧ (Try.prog.info? 89).map (·.bytes) = some 8 ∧ (Try.prog.underlying 89).isSome = true ∧ sizesOk Try.prog 89 = false ∧ zeroOf Try.prog 89 = some [AV.v Value.nilFunc] ∧ flatK Try.prog 40 89 = none ∧ Try.prog.eqGuardType Try.prog.depth 89 = false := by
  refine ⟨?_, ?_, ?_, ?_, ?_, ?_, ?_, ?_, ?_, ?_, ?_, ?_, ?_, ?_, ?_⟩ <;> kernel_rfl
@[simp] theorem tj_90 :
    szOf Try.prog 90 = some 1 ∧ isAggT Try.prog 90 = some false ∧ isSl Try.prog 90 = none ∧ isArr Try.prog 90 = none ∧ isStr Try.prog 90 = false ∧ isInt Try.prog 90 = none ∧ isU8 Try.prog 90 = false ∧ isBool Try.prog 90 = false ∧ nkT Try.prog 90 = some NK.func ∧ (Try.prog.info? 90).map (·.bytes) = some 8 ∧ (Try.prog.underlying 90).isSome = true ∧ sizesOk Try.prog 90 = false ∧ zeroOf Try.prog 90 = some [AV.v Value.nilFunc] ∧ flatK Try.prog 40 90 = none ∧ Try.prog.eqGuardType Try.prog.depth 90 = false := by
  refine ⟨?_, ?_, ?_, ?_, ?_, ?_, ?_, ?_, ?_, ?_, ?_, ?_, ?_, ?_, ?_⟩ <;> kernel_rfl
@[simp] theorem tj_91 :
    szOf Try.prog 91 = some 1 ∧ isAggT Try.prog 91 = some false ∧ isSl Try.prog 91 = none ∧ isArr Try.prog 91 = none ∧ isStr Try.prog 91 = false ∧ isInt Try.prog 91 = none ∧ isU8 Try.prog 91 = false ∧ isBool Try.prog 91 = false ∧ nkT Try.prog 91 = some NK.func ∧ (Try.prog.info? 91).map (·.bytes) = some 8 ∧ (Try.prog.underlying 91).isSome = true ∧ sizesOk Try.prog 91 = false ∧ zeroOf Try.prog 91 = some [AV.v Value.nilFunc] ∧ flatK Try.prog 40 91 = none ∧ Try.prog.eqGuardType Try.prog.depth 91 = false := by
  refine ⟨?_, ?_, ?_, ?_, ?_, ?_, ?_, ?_, ?_, ?_, ?_, ?_, ?_, ?_, ?_⟩ <;> kernel_rfl
@[simp] theorem tj_92 :
    szOf Try.prog 92 = some 1 ∧ isAggT Try.prog 92 = some false ∧ isSl Try.prog 92 = none ∧ isArr Try.prog 92 = none ∧ isStr Try.prog 92 = false ∧ isInt Try.prog 92 = none ∧ isU8 Try.prog 92 = false ∧ isBool Try.prog 92 = false ∧ nkT Try.prog 92 = some NK.func ∧ (Try.prog.info? 92).map (·.bytes) = some 8 ∧ (Try.prog.underlying 92).isSome = true ∧ sizesOk Try.prog 92 = false ∧ zeroOf Try.prog 92 = some [AV.v Value.nilFunc] ∧ flatK Try.prog 40 92 = none ∧ Try.prog.eqGuardType Try.prog.depth 92 = false := by
  refine ⟨?_, ?_, ?_, ?_, ?_, ?_, ?_, ?_, ?_, ?_, ?_, ?_, ?_, ?_, ?_⟩ <;> kernel_rfl
@[simp] theorem tj_93 :
    szOf Try.prog 93 = some 1 ∧ isAggT Try.prog 93 = some false ∧ isSl Try.prog 93 = some 3 ∧ isArr Try.prog 93 = none ∧ isStr Try.prog 93 = false ∧ isInt Try.prog 93 = none ∧ isU8 Try.prog 93 = false ∧ isBool Try.prog 93 = false ∧ nkT Try.prog 93 = some NK.slice ∧ (Try.prog.info? 93).map (·.bytes) = some 24 ∧ (Try.prog.underlying 93).isSome = true ∧ sizesOk Try.prog 93 = false ∧ zeroOf Try.prog 93 = some [AV.v (Value.slice none 0 0)] ∧ flatK Try.prog 40 93 = none ∧ Try.prog.eqGuardType Try.prog.depth 93 = false := by
  refine ⟨?_, ?_, ?_, ?_, ?_, ?_, ?_, ?_, ?_, ?_, ?_, ?_, ?_, ?_, ?_⟩ <;> kernel_rfl
@[simp] theorem tj_94 :
    szOf Try.prog 94 = some 1 ∧ isAggT Try.prog 94 = some false ∧ isSl Try.prog 94 = none ∧ isArr Try.prog 94 = none ∧ isStr Try.prog 94 = false ∧ isInt Try.prog 94 = none ∧ isU8 Try.prog 94 = false ∧ isBool Try.prog 94 = false ∧ nkT Try.prog 94 = some NK.func ∧ (Try.prog.info? 94).map (·.bytes) = some 8 ∧ (Try.prog.underlying 94).isSome = true ∧ sizesOk Try.prog 94 = false ∧ zeroOf Try.prog 94 = some [AV.v Value.nilFunc] ∧ flatK Try.prog 40 94 = none ∧ Try.prog.eqGuardType Try.prog.depth 94 = false := by
  refine ⟨?_, ?_, ?_, ?_, ?_, ?_, ?_, ?_, ?_, ?_, ?_, ?_, ?_, ?_, ?_⟩ <;> kernel_rfl
@[simp] theorem tj_95 :
    szOf Try.prog 95 = some 1 ∧ isAggT Try.prog 95 = some false ∧ isSl Try.prog 95 = none ∧ isArr Try.prog 95 = none ∧ isStr Try.prog 95 = false ∧ isInt Try.prog 95 = none ∧ isU8 Try.prog 95 = false ∧ isBool Try.prog 95 = false ∧ nkT Try.prog 95 = some NK.func ∧ (Try.prog.info? 95).map (·.bytes) = some 8 ∧ (Try.prog.underlying 95).isSome = true ∧ sizesOk Try.prog 95 = false ∧ zeroOf Try.prog 95 = some [AV.v Value.nilFunc] ∧ flatK Try.prog 40 95 = none ∧ Try.prog.eqGuardType Try.prog.depth 95 = false := by
  refine ⟨?_, ?_, ?_, ?_, ?_, ?_, ?_, ?_, ?_, ?_, ?_, ?_, ?_, ?_, ?_⟩ <;> kernel_rfl
@[simp] theorem tj_96 :
    szOf Try.prog 96 = some 2 ∧ isAggT Try.prog 96 = some true ∧ isSl Try.prog 96 = none ∧ isArr Try.prog 96 = none ∧ isStr Try.prog 96 = false ∧ isInt Try.prog 96 = none ∧ isU8 Try.prog 96 = false ∧ isBool Try.prog 96 = false ∧ nkT Try.prog 96 = none ∧ (Try.prog.info? 96).map (·.bytes) = some 16 ∧ (Try.prog.underlying 96).isSome = true ∧ sizesOk Try.prog 96 = true ∧ zeroOf Try.prog 96 = some [AV.v (Value.int IntKind.i64 (Int.ofNat 0)), AV.v (Value.int IntKind.i64 (Int.ofNat 0))] ∧ flatK Try.prog 40 96 = some [LK.int, LK.int] ∧ Try.prog.eqGuardType Try.prog.depth 96 = false := by
  refine ⟨?_, ?_, ?_, ?_, ?_, ?_, ?_, ?_, ?_, ?_, ?_, ?_, ?_, ?_, ?_⟩ <;> kernel_rfl
@[simp] theorem tb_fd96_0 : fieldOf Try.prog 96 0 = some (0, 3) := by kernel_rfl
@[simp] theorem tb_fd96_1 : fieldOf Try.prog 96 1 = some (1, 3) := by kernel_rfl
@[simp] theorem tj_97 :
    szOf Try.prog 97 = some 2 ∧ isAggT Try.prog 97 = some true ∧ isSl Try.prog 97 = none ∧ isArr Try.prog 97 = none ∧ isStr Try.prog 97 = false ∧ isInt Try.prog 97 = none ∧ isU8 Try.prog 97 = false ∧ isBool Try.prog 97 = false ∧ nkT Try.prog 97 = none ∧ (Try.prog.info? 97).map (·.bytes) = some 16 ∧ (Try.prog.underlying 97).isSome = true ∧ sizesOk Try.prog 97 = true ∧ zeroOf Try.prog 97 = some [AV.v (Value.int IntKind.i64 (Int.ofNat 0)), AV.v (Value.int IntKind.i64 (Int.ofNat 0))] ∧ flatK Try.prog 40 97 = some [LK.int, LK.int] ∧ Try.prog.eqGuardType Try.prog.depth 97 = false ∧ zeroV Try.prog 97 = some (AV.agg [AV.v (Value.int IntKind.i64 (Int.ofNat 0)), AV.v (Value.int IntKind.i64 (Int.ofNat 0))]) := by
  refine ⟨?_, ?_, ?_, ?_, ?_, ?_, ?_, ?_, ?_, ?_, ?_, ?_, ?_, ?_, ?_, ?_⟩ <;> kernel_rfl
@[simp] theorem tb_fd97_0 : fieldOf Try.prog 97 0 = some (0, 3) := by kernel_rfl
@[simp] theorem tb_fd97_1 : fieldOf Try.prog 97 1 = some (1, 3) := by kernel_rfl
@[simp] theorem tj_98 :
    szOf Try.prog 98 = some 1 ∧ isAggT Try.prog 98 = some false ∧ isSl Try.prog 98 = none ∧ isArr Try.prog 98 = none ∧ isStr Try.prog 98 = false ∧ isInt Try.prog 98 = none ∧ isU8 Try.prog 98 = false ∧ isBool Try.prog 98 = false ∧ nkT Try.prog 98 = none ∧ (Try.prog.info? 98).map (·.bytes) = some 0 ∧ (Try.prog.underlying 98).isSome = true ∧ sizesOk Try.prog 98 = false ∧ flatK Try.prog 40 98 = none ∧ Try.prog.eqGuardType Try.prog.depth 98 = false := by
  refine ⟨?_, ?_, ?_, ?_, ?_, ?_, ?_, ?_, ?_, ?_, ?_, ?_, ?_, ?_⟩ <;> kernel_rfl
@[simp] theorem tj_99 :
    szOf Try.prog 99 = some 1 ∧ isAggT Try.prog 99 = some false ∧ isSl Try.prog 99 = none ∧ isArr Try.prog 99 = none ∧ isStr Try.prog 99 = false ∧ isInt Try.prog 99 = none ∧ isU8 Try.prog 99 = false ∧ isBool Try.prog 99 = false ∧ nkT Try.prog 99 = none ∧ (Try.prog.info? 99).map (·.bytes) = some 0 ∧ (Try.prog.underlying 99).isSome = true ∧ sizesOk Try.prog 99 = false ∧ flatK Try.prog 40 99 = none ∧ Try.prog.eqGuardType Try.prog.depth 99 = false := by
  refine ⟨?_, ?_, ?_, ?_, ?_, ?_, ?_, ?_, ?_, ?_, ?_, ?_, ?_, ?_⟩ <;> kernel_rfl
@[simp] theorem tj_100 :
    szOf Try.prog 100 = some 1 ∧ isAggT Try.prog 100 = some false ∧ isSl Try.prog 100 = none ∧ isArr Try.prog 100 = none ∧ isStr Try.prog 100 = false ∧ isInt Try.prog 100 = none ∧ isU8 Try.prog 100 = false ∧ isBool Try.prog 100 = false ∧ nkT Try.prog 100 = some NK.func ∧ (Try.prog.info? 100).map (·.bytes) = some 8 ∧ (Try.prog.underlying 100).isSome = true ∧ sizesOk Try.prog 100 = false ∧ zeroOf Try.prog 100 = some [AV.v Value.nilFunc] ∧ flatK Try.prog 40 100 = none ∧ Try.prog.eqGuardType Try.prog.depth 100 = false := by
  refine ⟨?_, ?_, ?_, ?_, ?_, ?_, ?_, ?_, ?_, ?_, ?_, ?_, ?_, ?_, ?_⟩ <;> kernel_rfl
@[simp] theorem tj_101 :
    szOf Try.prog 101 = some 1 ∧ isAggT Try.prog 101 = some false ∧ isSl Try.prog 101 = none ∧ isArr Try.prog 101 = none ∧ isStr Try.prog 101 = false ∧ isInt Try.prog 101 = none ∧ isU8 Try.prog 101 = false ∧ isBool Try.prog 101 = false ∧ nkT Try.prog 101 = some NK.func ∧ (Try.prog.info? 101).map (·.bytes) = some 8 ∧ (Try.prog.underlying 101).isSome = true ∧ sizesOk Try.prog 101 = false ∧ zeroOf Try.prog 101 = some [AV.v Value.nilFunc] ∧ flatK Try.prog 40 101 = none ∧ Try.prog.eqGuardType Try.prog.depth 101 = false := by
  refine ⟨?_, ?_, ?_, ?_, ?_, ?_, ?_, ?_, ?_, ?_, ?_, ?_, ?_, ?_, ?_⟩ <;> kernel_rfl
@[simp] theorem tj_102 :
    szOf Try.prog 102 = some 1 ∧ isAggT Try.prog 102 = some false ∧ isSl Try.prog 102 = none ∧ isArr Try.prog 102 = none ∧ isStr Try.prog 102 = false ∧ isInt Try.prog 102 = none ∧ isU8 Try.prog 102 = false ∧ isBool Try.prog 102 = false ∧ nkT Try.prog 102 = some NK.func ∧ (Try.prog.info? 102).map (·.bytes) = some 8 ∧ (Try.prog.underlying 102).isSome = true ∧ sizesOk Try.prog 102 = false ∧ zeroOf Try.prog 102 = some [AV.v Value.nilFunc] ∧ flatK Try.prog 40 102 = none ∧ Try.prog.eqGuardType Try.prog.depth 102 = false := by
  refine ⟨?_, ?_, ?_, ?_, ?_, ?_, ?_, ?_, ?_, ?_, ?_, ?_, ?_, ?_, ?_⟩ <;> kernel_rfl
@[simp] theorem tj_103 :
    szOf Try.prog 103 = some 1 ∧ isAggT Try.prog 103 = some false ∧ isSl Try.prog 103 = none ∧ isArr Try.prog 103 = none ∧ isStr Try.prog 103 = false ∧ isInt Try.prog 103 = none ∧ isU8 Try.prog 103 = false ∧ isBool Try.prog 103 = false ∧ nkT Try.prog 103 = some NK.func ∧ (Try.prog.info? 103).map (·.bytes) = some 8 ∧ (Try.prog.underlying 103).isSome = true ∧ sizesOk Try.prog 103 = false ∧ zeroOf Try.prog 103 = some [AV.v Value.nilFunc] ∧ flatK Try.prog 40 103 = none ∧ Try.prog.eqGuardType Try.prog.depth 103 = false := by
  refine ⟨?_, ?_, ?_, ?_, ?_, ?_, ?_, ?_, ?_, ?_, ?_, ?_, ?_, ?_, ?_⟩ <;> kernel_rfl
@[simp] theorem tj_104 :
    szOf Try.prog 104 = some 1 ∧ isAggT Try.prog 104 = some false ∧ isSl Try.prog 104 = none ∧ isArr Try.prog 104 = none ∧ isStr Try.prog 104 = false ∧ isInt Try.prog 104 = none ∧ isU8 Try.prog 104 = false ∧ isBool Try.prog 104 = false ∧ nkT Try.prog 104 = some NK.func ∧ (Try.prog.info? 104).map (·.bytes) = some 8 ∧ (Try.prog.underlying 104).isSome = true ∧ sizesOk Try.prog 104 = false ∧ zeroOf Try.prog 104 = some [AV.v Value.nilFunc] ∧ flatK Try.prog 40 104 = none ∧ Try.prog.eqGuardType Try.prog.depth 104 = false := by
  refine ⟨?_, ?_, ?_, ?_, ?_, ?_, ?_, ?_, ?_, ?_, ?_, ?_, ?_, ?_, ?_⟩ <;> kernel_rfl
@[simp] theorem tj_105 :
    szOf Try.prog 105 = some 1 ∧ isAggT Try.prog 105 = some false ∧ isSl Try.prog 105 = none ∧ isArr Try.prog 105 = none ∧ isStr Try.prog 105 = false ∧ isInt Try.prog 105 = none ∧ isU8 Try.prog 105 = false ∧ isBool Try.prog 105 = false ∧ nkT Try.prog 105 = some NK.func ∧ (Try.prog.info? 105).map (·.bytes) = some 8 ∧ (Try.prog.underlying 105).isSome = true ∧ sizesOk Try.prog 105 = false ∧ zeroOf Try.prog 105 = some [AV.v Value.nilFunc] ∧ flatK Try.prog 40 105 = none ∧ Try.prog.eqGuardType Try.prog.depth 105 = false := by
  refine ⟨?_, ?_, ?_, ?_, ?_, ?_, ?_, ?_, ?_, ?_, ?_, ?_, ?_, ?_, ?_⟩ <;> kernel_rfl
@[simp] theorem tj_106 :
    szOf Try.prog 106 = some 1 ∧ isAggT Try.prog 106 = some false ∧ isSl Try.prog 106 = none ∧ isArr Try.prog 106 = none ∧ isStr Try.prog 106 = false ∧ isInt Try.prog 106 = none ∧ isU8 Try.prog 106 = false ∧ isBool Try.prog 106 = false ∧ nkT Try.prog 106 = some NK.func ∧ (Try.prog.info? 106).map (·.bytes) = some 8 ∧ (Try.prog.underlying 106).isSome = true ∧ sizesOk Try.prog 106 = false ∧ zeroOf Try.prog 106 = some [AV.v Value.nilFunc] ∧ flatK Try.prog 40 106 = none ∧ Try.prog.eqGuardType Try.prog.depth 106 = false := by
  refine ⟨?_, ?_, ?_, ?_, ?_, ?_, ?_, ?_, ?_, ?_, ?_, ?_, ?_, ?_, ?_⟩ <;> kernel_rfl
@[simp] theorem tj_107 :
    szOf Try.prog 107 = some 1 ∧ isAggT Try.prog 107 = some false ∧ isSl Try.prog 107 = none ∧ isArr Try.prog 107 = none ∧ isStr Try.prog 107 = false ∧ isInt Try.prog 107 = none ∧ isU8 Try.prog 107 = false ∧ isBool Try.prog 107 = false ∧ nkT Try.prog 107 = some NK.func ∧ (Try.prog.info? 107).map (·.bytes) = some 8 ∧ (Try.prog.underlying 107).isSome = true ∧ sizesOk Try.prog 107 = false ∧ zeroOf Try.prog 107 = some [AV.v Value.nilFunc] ∧ flatK Try.prog 40 107 = none ∧ Try.prog.eqGuardType Try.prog.depth 107 = false := by
  refine ⟨?_, ?_, ?_, ?_, ?_, ?_, ?_, ?_, ?_, ?_, ?_, ?_, ?_, ?_, ?_⟩ <;> kernel_rfl
@[simp] theorem tj_108 :
    szOf Try.prog 108 = some 2 ∧ isAggT Try.prog 108 = some true ∧ isSl Try.prog 108 = none ∧ isArr Try.prog 108 = none ∧ isStr Try.prog 108 = false ∧ isInt Try.prog 108 = none ∧ isU8 Try.prog 108 = false ∧ isBool Try.prog 108 = false ∧ nkT Try.prog 108 = none ∧ (Try.prog.info? 108).map (·.bytes) = some 4 ∧ (Try.prog.underlying 108).isSome = true ∧ sizesOk Try.prog 108 = true ∧ zeroOf Try.prog 108 = some [AV.v (Value.int IntKind.u16 (Int.ofNat 0)), AV.v (Value.bool false)] ∧ flatK Try.prog 40 108 = some [LK.int, LK.bool] ∧ Try.prog.eqGuardType Try.prog.depth 108 = false := by
  refine ⟨?_, ?_, ?_, ?_, ?_, ?_, ?_, ?_, ?_, ?_, ?_, ?_, ?_, ?_, ?_⟩ <;> kernel_rfl
@[simp] theorem tb_fd108_0 : fieldOf Try.prog 108 0 = some (0, 36) := by kernel_rfl
@[simp] theorem tb_fd108_1 : fieldOf Try.prog 108 1 = some (1, 4) := by kernel_rfl
@[simp] theorem tj_109 :
    szOf Try.prog 109 = some 2 ∧ isAggT Try.prog 109 = some true ∧ isSl Try.prog 109 = none ∧ isArr Try.prog 109 = none ∧ isStr Try.prog 109 = false ∧ isInt Try.prog 109 = none ∧ isU8 Try.prog 109 = false ∧ isBool Try.prog 109 = false ∧ nkT Try.prog 109 = none ∧ (Try.prog.info? 109).map (·.bytes) = some 4 ∧ (Try.prog.underlying 109).isSome = true ∧ sizesOk Try.prog 109 = true ∧ zeroOf Try.prog 109 = some [AV.v (Value.int IntKind.u16 (Int.ofNat 0)), AV.v (Value.bool false)] ∧ flatK Try.prog 40 109 = some [LK.int, LK.bool] ∧ Try.prog.eqGuardType Try.prog.depth 109 = false := by
  refine ⟨?_, ?_, ?_, ?_, ?_, ?_, ?_, ?_, ?_, ?_, ?_, ?_, ?_, ?_, ?_⟩ <;> kernel_rfl
@[simp] theorem tb_fd109_0 : fieldOf Try.prog 109 0 = some (0, 36) := by kernel_rfl
@[simp] theorem tb_fd109_1 : fieldOf Try.prog 109 1 = some (1, 4) := by kernel_rfl
@[simp] theorem tj_110 :
    szOf Try.prog 110 = some 1 ∧ isAggT Try.prog 110 = some false ∧ isSl Try.prog 110 = none ∧ isArr Try.prog 110 = none ∧ isStr Try.prog 110 = false ∧ isInt Try.prog 110 = none ∧ isU8 Try.prog 110 = false ∧ isBool Try.prog 110 = false ∧ nkT Try.prog 110 = some NK.func ∧ (Try.prog.info? 110).map (·.bytes) = some 8 ∧ (Try.prog.underlying 110).isSome = true ∧ sizesOk Try.prog 110 = false ∧ zeroOf Try.prog 110 = some [AV.v Value.nilFunc] ∧ flatK Try.prog 40 110 = none ∧ Try.prog.eqGuardType Try.prog.depth 110 = false := by
  refine ⟨?_, ?_, ?_, ?_, ?_, ?_, ?_, ?_, ?_, ?_, ?_, ?_, ?_, ?_, ?_⟩ <;> kernel_rfl
@[simp] theorem tj_111 :
    szOf Try.prog 111 = some 1 ∧ isAggT Try.prog 111 = some false ∧ isSl Try.prog 111 = none ∧ isArr Try.prog 111 = none ∧ isStr Try.prog 111 = false ∧ isInt Try.prog 111 = some IntKind.u64 ∧ isU8 Try.prog 111 = false ∧ isBool Try.prog 111 = false ∧ nkT Try.prog 111 = none ∧ (Try.prog.info? 111).map (·.bytes) = some 8 ∧ (Try.prog.underlying 111).isSome = true ∧ sizesOk Try.prog 111 = false ∧ zeroOf Try.prog 111 = some [AV.v (Value.int IntKind.u64 (Int.ofNat 0))] ∧ flatK Try.prog 40 111 = some [LK.int] ∧ Try.prog.eqGuardType Try.prog.depth 111 = false := by
  refine ⟨?_, ?_, ?_, ?_, ?_, ?_, ?_, ?_, ?_, ?_, ?_, ?_, ?_, ?_, ?_⟩ <;> kernel_rfl
@[simp] theorem tj_112 :
    szOf Try.prog 112 = some 1 ∧ isAggT Try.prog 112 = some false ∧ isSl Try.prog 112 = none ∧ isArr Try.prog 112 = none ∧ isStr Try.prog 112 = false ∧ isInt Try.prog 112 = none ∧ isU8 Try.prog 112 = false ∧ isBool Try.prog 112 = false ∧ nkT Try.prog 112 = none ∧ (Try.prog.info? 112).map (·.bytes) = some 0 ∧ (Try.prog.underlying 112).isSome = true ∧ sizesOk Try.prog 112 = false ∧ flatK Try.prog 40 112 = none ∧ Try.prog.eqGuardType Try.prog.depth 112 = false := by
  refine ⟨?_, ?_, ?_, ?_, ?_, ?_, ?_, ?_, ?_, ?_, ?_, ?_, ?_, ?_⟩ <;> kernel_rfl
@[simp] theorem tj_113 :
    szOf Try.prog 113 = some 1 ∧ isAggT Try.prog 113 = some false ∧ isSl Try.prog 113 = none ∧ isArr Try.prog 113 = none ∧ isStr Try.prog 113 = false ∧ isInt Try.prog 113 = none ∧ isU8 Try.prog 113 = false ∧ isBool Try.prog 113 = false ∧ nkT Try.prog 113 = some NK.func ∧ (Try.prog.info? 113).map (·.bytes) = some 8 ∧ (Try.prog.underlying 113).isSome = true ∧ sizesOk Try.prog 113 = false ∧ zeroOf Try.prog 113 = some [AV.v Value.nilFunc] ∧ flatK Try.prog 40 113 = none ∧ Try.prog.eqGuardType Try.prog.depth 113 = false := by
  refine ⟨?_, ?_, ?_, ?_, ?_, ?_, ?_, ?_, ?_, ?_, ?_, ?_, ?_, ?_, ?_⟩ <;> kernel_rfl
@[simp] theorem tj_114 :
    szOf Try.prog 114 = some 1 ∧ isAggT Try.prog 114 = some false ∧ isSl Try.prog 114 = some 35 ∧ isArr Try.prog 114 = none ∧ isStr Try.prog 114 = false ∧ isInt Try.prog 114 = none ∧ isU8 Try.prog 114 = false ∧ isBool Try.prog 114 = false ∧ nkT Try.prog 114 = some NK.slice ∧ (Try.prog.info? 114).map (·.bytes) = some 24 ∧ (Try.prog.underlying 114).isSome = true ∧ sizesOk Try.prog 114 = false ∧ zeroOf Try.prog 114 = some [AV.v (Value.slice none 0 0)] ∧ flatK Try.prog 40 114 = none ∧ Try.prog.eqGuardType Try.prog.depth 114 = false := by
  refine ⟨?_, ?_, ?_, ?_, ?_, ?_, ?_, ?_, ?_, ?_, ?_, ?_, ?_, ?_, ?_⟩ <;> kernel_rfl
@[simp] theorem tj_115 :
    szOf Try.prog 115 = some 1 ∧ isAggT Try.prog 115 = some false ∧ isSl Try.prog 115 = none ∧ isArr Try.prog 115 = none ∧ isStr Try.prog 115 = false ∧ isInt Try.prog 115 = none ∧ isU8 Try.prog 115 = false ∧ isBool Try.prog 115 = false ∧ nkT Try.prog 115 = some NK.func ∧ (Try.prog.info? 115).map (·.bytes) = some 8 ∧ (Try.prog.underlying 115).isSome = true ∧ sizesOk Try.prog 115 = false ∧ zeroOf Try.prog 115 = some [AV.v Value.nilFunc] ∧ flatK Try.prog 40 115 = none ∧ Try.prog.eqGuardType Try.prog.depth 115 = false := by
  refine ⟨?_, ?_, ?_, ?_, ?_, ?_, ?_, ?_, ?_, ?_, ?_, ?_, ?_, ?_, ?_⟩ <;> kernel_rfl
@[simp] theorem tj_116 :
    szOf Try.prog 116 = some 1 ∧ isAggT Try.prog 116 = some false ∧ isSl Try.prog 116 = none ∧ isArr Try.prog 116 = none ∧ isStr Try.prog 116 = false ∧ isInt Try.prog 116 = none ∧ isU8 Try.prog 116 = false ∧ isBool Try.prog 116 = false ∧ nkT Try.prog 116 = some NK.func ∧ (Try.prog.info? 116).map (·.bytes) = some 8 ∧ (Try.prog.underlying 116).isSome = true ∧ sizesOk Try.prog 116 = false ∧ zeroOf Try.prog 116 = some [AV.v Value.nilFunc] ∧ flatK Try.prog 40 116 = none ∧ Try.prog.eqGuardType Try.prog.depth 116 = false := by
  refine ⟨?_, ?_, ?_, ?_, ?_, ?_, ?_, ?_, ?_, ?_, ?_, ?_, ?_, ?_, ?_⟩ <;> kernel_rfl
@[simp] theorem tj_117 :
    szOf Try.prog 117 = some 1 ∧ isAggT Try.prog 117 = some false ∧ isSl Try.prog 117 = none ∧ isArr Try.prog 117 = none ∧ isStr Try.prog 117 = false ∧ isInt Try.prog 117 = none ∧ isU8 Try.prog 117 = false ∧ isBool Try.prog 117 = false ∧ nkT Try.prog 117 = some NK.func ∧ (Try.prog.info? 117).map (·.bytes) = some 8 ∧ (Try.prog.underlying 117).isSome = true ∧ sizesOk Try.prog 117 = false ∧ zeroOf Try.prog 117 = some [AV.v Value.nilFunc] ∧ flatK Try.prog 40 117 = none ∧ Try.prog.eqGuardType Try.prog.depth 117 = false := by
  refine ⟨?_, ?_, ?_, ?_, ?_, ?_, ?_, ?_, ?_, ?_, ?_, ?_, ?_, ?_, ?_⟩ <;> kernel_rfl
@[simp] theorem tj_118 :
    szOf Try.prog 118 = some 1 ∧ isAggT Try.prog 118 = some false ∧ isSl Try.prog 118 = none ∧ isArr Try.prog 118 = none ∧ isStr Try.prog 118 = false ∧ isInt Try.prog 118 = none ∧ isU8 Try.prog 118 = false ∧ isBool Try.prog 118 = false ∧ nkT Try.prog 118 = some NK.func ∧ (Try.prog.info? 118).map (·.bytes) = some 8 ∧ (Try.prog.underlying 118).isSome = true ∧ sizesOk Try.prog 118 = false ∧ zeroOf Try.prog 118 = some [AV.v Value.nilFunc] ∧ flatK Try.prog 40 118 = none ∧ Try.prog.eqGuardType Try.prog.depth 118 = false := by
  refine ⟨?_, ?_, ?_, ?_, ?_, ?_, ?_, ?_, ?_, ?_, ?_, ?_, ?_, ?_, ?_⟩ <;> kernel_rfl
@[simp] theorem tj_119 :
    szOf Try.prog 119 = some 1 ∧ isAggT Try.prog 119 = some false ∧ isSl Try.prog 119 = none ∧ isArr Try.prog 119 = none ∧ isStr Try.prog 119 = false ∧ isInt Try.prog 119 = none ∧ isU8 Try.prog 119 = false ∧ isBool Try.prog 119 = false ∧ nkT Try.prog 119 = some NK.func ∧ (Try.prog.info? 119).map (·.bytes) = some 8 ∧ (Try.prog.underlying 119).isSome = true ∧ sizesOk Try.prog 119 = false ∧ zeroOf Try.prog 119 = some [AV.v Value.nilFunc] ∧ flatK Try.prog 40 119 = none ∧ Try.prog.eqGuardType Try.prog.depth 119 = false := by
  refine ⟨?_, ?_, ?_, ?_, ?_, ?_, ?_, ?_, ?_, ?_, ?_, ?_, ?_, ?_, ?_⟩ <;> kernel_rfl
@[simp] theorem tj_120 :
    szOf Try.prog 120 = some 1 ∧ isAggT Try.prog 120 = some false ∧ isSl Try.prog 120 = none ∧ isArr Try.prog 120 = none ∧ isStr Try.prog 120 = false ∧ isInt Try.prog 120 = none ∧ isU8 Try.prog 120 = false ∧ isBool Try.prog 120 = false ∧ nkT Try.prog 120 = some NK.func ∧ (Try.prog.info? 120).map (·.bytes) = some 8 ∧ (Try.prog.underlying 120).isSome = true ∧ sizesOk Try.prog 120 = false ∧ zeroOf Try.prog 120 = some [AV.v Value.nilFunc] ∧ flatK Try.prog 40 120 = none ∧ Try.prog.eqGuardType Try.prog.depth 120 = false := by
  refine ⟨?_, ?_, ?_, ?_, ?_, ?_, ?_, ?_, ?_, ?_, ?_, ?_, ?_, ?_, ?_⟩ <;> kernel_rfl
@[simp] theorem tj_121 :
    szOf Try.prog 121 = some 1 ∧ isAggT Try.prog 121 = some false ∧ isSl Try.prog 121 = none ∧ isArr Try.prog 121 = none ∧ isStr Try.prog 121 = false ∧ isInt Try.prog 121 = none ∧ isU8 Try.prog 121 = false ∧ isBool Try.prog 121 = false ∧ nkT Try.prog 121 = some NK.func ∧ (Try.prog.info? 121).map (·.bytes) = some 8 ∧ (Try.prog.underlying 121).isSome = true ∧ sizesOk Try.prog 121 = false ∧ zeroOf Try.prog 121 = some [AV.v Value.nilFunc] ∧ flatK Try.prog 40 121 = none ∧ Try.prog.eqGuardType Try.prog.depth 121 = false := by
  refine ⟨?_, ?_, ?_, ?_, ?_, ?_, ?_, ?_, ?_, ?_, ?_, ?_, ?_, ?_, ?_⟩ <;> kernel_rfl
@[simp] theorem tj_122 :
    szOf Try.prog 122 = some 1 ∧ isAggT Try.prog 122 = some false ∧ isSl Try.prog 122 = none ∧ isArr Try.prog 122 = none ∧ isStr Try.prog 122 = false ∧ isInt Try.prog 122 = none ∧ isU8 Try.prog 122 = false ∧ isBool Try.prog 122 = false ∧ nkT Try.prog 122 = some NK.func ∧ (Try.prog.info? 122).map (·.bytes) = some 8 ∧ (Try.prog.underlying 122).isSome = true ∧ sizesOk Try.prog 122 = false ∧ zeroOf Try.prog 122 = some [AV.v Value.nilFunc] ∧ flatK Try.prog 40 122 = none ∧ Try.prog.eqGuardType Try.prog.depth 122 = false := by
  refine ⟨?_, ?_, ?_, ?_, ?_, ?_, ?_, ?_, ?_, ?_, ?_, ?_, ?_, ?_, ?_⟩ <;> kernel_rfl
@[simp] theorem tj_123 :
    szOf Try.prog 123 = some 1 ∧ isAggT Try.prog 123 = some false ∧ isSl Try.prog 123 = none ∧ isArr Try.prog 123 = none ∧ isStr Try.prog 123 = false ∧ isInt Try.prog 123 = none ∧ isU8 Try.prog 123 = false ∧ isBool Try.prog 123 = false ∧ nkT Try.prog 123 = some NK.func ∧ (Try.prog.info? 123).map (·.bytes) = some 8 ∧ (Try.prog.underlying 123).isSome = true ∧ sizesOk Try.prog 123 = false ∧ zeroOf Try.prog 123 = some [AV.v Value.nilFunc] ∧ flatK Try.prog 40 123 = none ∧ Try.prog.eqGuardType Try.prog.depth 123 = false := by
  refine ⟨?_, ?_, ?_, ?_, ?_, ?_, ?_, ?_, ?_, ?_, ?_, ?_, ?_, ?_, ?_⟩ <;> kernel_rfl
@[simp] theorem tj_124 :
    szOf Try.prog 124 = some 1 ∧ isAggT Try.prog 124 = some false ∧ isSl Try.prog 124 = none ∧ isArr Try.prog 124 = none ∧ isStr Try.prog 124 = false ∧ isInt Try.prog 124 = none ∧ isU8 Try.prog 124 = false ∧ isBool Try.prog 124 = false ∧ nkT Try.prog 124 = some NK.func ∧ (Try.prog.info? 124).map (·.bytes) = some 8 ∧ (Try.prog.underlying 124).isSome = true ∧ sizesOk Try.prog 124 = false ∧ zeroOf Try.prog 124 = some [AV.v Value.nilFunc] ∧ flatK Try.prog 40 124 = none ∧ Try.prog.eqGuardType Try.prog.depth 124 = false := by
  refine ⟨?_, ?_, ?_, ?_, ?_, ?_, ?_, ?_, ?_, ?_, ?_, ?_, ?_, ?_, ?_⟩ <;> kernel_rfl
@[simp] theorem tj_125 :
    szOf Try.prog 125 = some 1 ∧ isAggT Try.prog 125 = some false ∧ isSl Try.prog 125 = none ∧ isArr Try.prog 125 = none ∧ isStr Try.prog 125 = false ∧ isInt Try.prog 125 = none ∧ isU8 Try.prog 125 = false ∧ isBool Try.prog 125 = false ∧ nkT Try.prog 125 = some NK.func ∧ (Try.prog.info? 125).map (·.bytes) = some 8 ∧ (Try.prog.underlying 125).isSome = true ∧ sizesOk Try.prog 125 = false ∧ zeroOf Try.prog 125 = some [AV.v Value.nilFunc] ∧ flatK Try.prog 40 125 = none ∧ Try.prog.eqGuardType Try.prog.depth 125 = false := by
  refine ⟨?_, ?_, ?_, ?_, ?_, ?_, ?_, ?_, ?_, ?_, ?_, ?_, ?_, ?_, ?_⟩ <;> kernel_rfl
@[simp] theorem tj_126 :
    szOf Try.prog 126 = some 1 ∧ isAggT Try.prog 126 = some false ∧ isSl Try.prog 126 = none ∧ isArr Try.prog 126 = none ∧ isStr Try.prog 126 = false ∧ isInt Try.prog 126 = some IntKind.i64 ∧ isU8 Try.prog 126 = false ∧ isBool Try.prog 126 = false ∧ nkT Try.prog 126 = none ∧ (Try.prog.info? 126).map (·.bytes) = some 8 ∧ (Try.prog.underlying 126).isSome = true ∧ sizesOk Try.prog 126 = false ∧ zeroOf Try.prog 126 = some [AV.v (Value.int IntKind.i64 (Int.ofNat 0))] ∧ flatK Try.prog 40 126 = some [LK.int] ∧ Try.prog.eqGuardType Try.prog.depth 126 = false := by
  refine ⟨?_, ?_, ?_, ?_, ?_, ?_, ?_, ?_, ?_, ?_, ?_, ?_, ?_, ?_, ?_⟩ <;> kernel_rfl
@[simp] theorem tj_127 :
    szOf Try.prog 127 = some 1 ∧ isAggT Try.prog 127 = some false ∧ isSl Try.prog 127 = none ∧ isArr Try.prog 127 = none ∧ isStr Try.prog 127 = false ∧ isInt Try.prog 127 = none ∧ isU8 Try.prog 127 = false ∧ isBool Try.prog 127 = false ∧ nkT Try.prog 127 = none ∧ (Try.prog.info? 127).map (·.bytes) = some 0 ∧ (Try.prog.underlying 127).isSome = true ∧ sizesOk Try.prog 127 = false ∧ flatK Try.prog 40 127 = none ∧ Try.prog.eqGuardType Try.prog.depth 127 = false := by
  refine ⟨?_, ?_, ?_, ?_, ?_, ?_, ?_, ?_, ?_, ?_, ?_, ?_, ?_, ?_⟩ <;> kernel_rfl
@[simp] theorem tj_128 :
    szOf Try.prog 128 = some 1 ∧ isAggT Try.prog 128 = some false ∧ isSl Try.prog 128 = none ∧ isArr Try.prog 128 = none ∧ isStr Try.prog 128 = false ∧ isInt Try.prog 128 = none ∧ isU8 Try.prog 128 = false ∧ isBool Try.prog 128 = false ∧ nkT Try.prog 128 = some NK.func ∧ (Try.prog.info? 128).map (·.bytes) = some 8 ∧ (Try.prog.underlying 128).isSome = true ∧ sizesOk Try.prog 128 = false ∧ zeroOf Try.prog 128 = some [AV.v Value.nilFunc] ∧ flatK Try.prog 40 128 = none ∧ Try.prog.eqGuardType Try.prog.depth 128 = false := by
  refine ⟨?_, ?_, ?_, ?_, ?_, ?_, ?_, ?_, ?_, ?_, ?_, ?_, ?_, ?_, ?_⟩ <;> kernel_rfl
@[simp] theorem tj_129 :
    szOf Try.prog 129 = some 1 ∧ isAggT Try.prog 129 = some false ∧ isSl Try.prog 129 = none ∧ isArr Try.prog 129 = none ∧ isStr Try.prog 129 = false ∧ isInt Try.prog 129 = none ∧ isU8 Try.prog 129 = false ∧ isBool Try.prog 129 = false ∧ nkT Try.prog 129 = some NK.func ∧ (Try.prog.info? 129).map (·.bytes) = some 8 ∧ (Try.prog.underlying 129).isSome = true ∧ sizesOk Try.prog 129 = false ∧ zeroOf Try.prog 129 = some [AV.v Value.nilFunc] ∧ flatK Try.prog 40 129 = none ∧ Try.prog.eqGuardType Try.prog.depth 129 = false := by
  refine ⟨?_, ?_, ?_, ?_, ?_, ?_, ?_, ?_, ?_, ?_, ?_, ?_, ?_, ?_, ?_⟩ <;> kernel_rfl
@[simp] theorem tj_130 :
    szOf Try.prog 130 = some 1 ∧ isAggT Try.prog 130 = some false ∧ isSl Try.prog 130 = none ∧ isArr Try.prog 130 = none ∧ isStr Try.prog 130 = false ∧ isInt Try.prog 130 = none ∧ isU8 Try.prog 130 = false ∧ isBool Try.prog 130 = false ∧ nkT Try.prog 130 = some NK.func ∧ (Try.prog.info? 130).map (·.bytes) = some 8 ∧ (Try.prog.underlying 130).isSome = true ∧ sizesOk Try.prog 130 = false ∧ zeroOf Try.prog 130 = some [AV.v Value.nilFunc] ∧ flatK Try.prog 40 130 = none ∧ Try.prog.eqGuardType Try.prog.depth 130 = false := by
  refine ⟨?_, ?_, ?_, ?_, ?_, ?_, ?_, ?_, ?_, ?_, ?_, ?_, ?_, ?_, ?_⟩ <;> kernel_rfl
@[simp] theorem tj_131 :
    szOf Try.prog 131 = some 1 ∧ isAggT Try.prog 131 = some false ∧ isSl Try.prog 131 = none ∧ isArr Try.prog 131 = none ∧ isStr Try.prog 131 = false ∧ isInt Try.prog 131 = none ∧ isU8 Try.prog 131 = false ∧ isBool Try.prog 131 = false ∧ nkT Try.prog 131 = some NK.func ∧ (Try.prog.info? 131).map (·.bytes) = some 8 ∧ (Try.prog.underlying 131).isSome = true ∧ sizesOk Try.prog 131 = false ∧ zeroOf Try.prog 131 = some [AV.v Value.nilFunc] ∧ flatK Try.prog 40 131 = none ∧ Try.prog.eqGuardType Try.prog.depth 131 = false := by
  refine ⟨?_, ?_, ?_, ?_, ?_, ?_, ?_, ?_, ?_, ?_, ?_, ?_, ?_, ?_, ?_⟩ <;> kernel_rfl
@[simp] theorem tj_132 :
    szOf Try.prog 132 = some 1 ∧ isAggT Try.prog 132 = some false ∧ isSl Try.prog 132 = none ∧ isArr Try.prog 132 = none ∧ isStr Try.prog 132 = false ∧ isInt Try.prog 132 = none ∧ isU8 Try.prog 132 = false ∧ isBool Try.prog 132 = false ∧ nkT Try.prog 132 = some NK.func ∧ (Try.prog.info? 132).map (·.bytes) = some 8 ∧ (Try.prog.underlying 132).isSome = true ∧ sizesOk Try.prog 132 = false ∧ zeroOf Try.prog 132 = some [AV.v Value.nilFunc] ∧ flatK Try.prog 40 132 = none ∧ Try.prog.eqGuardType Try.prog.depth 132 = false := by
  refine ⟨?_, ?_, ?_, ?_, ?_, ?_, ?_, ?_, ?_, ?_, ?_, ?_, ?_, ?_, ?_⟩ <;> kernel_rfl
@[simp] theorem tj_133 :
    szOf Try.prog 133 = some 1 ∧ isAggT Try.prog 133 = some false ∧ isSl Try.prog 133 = none ∧ isArr Try.prog 133 = none ∧ isStr Try.prog 133 = false ∧ isInt Try.prog 133 = none ∧ isU8 Try.prog 133 = false ∧ isBool Try.prog 133 = false ∧ nkT Try.prog 133 = some NK.func ∧ (Try.prog.info? 133).map (·.bytes) = some 8 ∧ (Try.prog.underlying 133).isSome = true ∧ sizesOk Try.prog 133 = false ∧ zeroOf Try.prog 133 = some [AV.v Value.nilFunc] ∧ flatK Try.prog 40 133 = none ∧ Try.prog.eqGuardType Try.prog.depth 133 = false := by
  refine ⟨?_, ?_, ?_, ?_, ?_, ?_, ?_, ?_, ?_, ?_, ?_, ?_, ?_, ?_, ?_⟩ <;> kernel_rfl
@[simp] theorem tj_134 :
    szOf Try.prog 134 = some 1 ∧ isAggT Try.prog 134 = some false ∧ isSl Try.prog 134 = none ∧ isArr Try.prog 134 = none ∧ isStr Try.prog 134 = false ∧ isInt Try.prog 134 = none ∧ isU8 Try.prog 134 = false ∧ isBool Try.prog 134 = false ∧ nkT Try.prog 134 = some NK.func ∧ (Try.prog.info? 134).map (·.bytes) = some 8 ∧ (Try.prog.underlying 134).isSome = true ∧ sizesOk Try.prog 134 = false ∧ zeroOf Try.prog 134 = some [AV.v Value.nilFunc] ∧ flatK Try.prog 40 134 = none ∧ Try.prog.eqGuardType Try.prog.depth 134 = false := by
  refine ⟨?_, ?_, ?_, ?_, ?_, ?_, ?_, ?_, ?_, ?_, ?_, ?_, ?_, ?_, ?_⟩ <;> kernel_rfl
@[simp] theorem tj_135 :
    szOf Try.prog 135 = some 1 ∧ isAggT Try.prog 135 = some false ∧ isSl Try.prog 135 = none ∧ isArr Try.prog 135 = none ∧ isStr Try.prog 135 = false ∧ isInt Try.prog 135 = none ∧ isU8 Try.prog 135 = false ∧ isBool Try.prog 135 = false ∧ nkT Try.prog 135 = some NK.func ∧ (Try.prog.info? 135).map (·.bytes) = some 8 ∧ (Try.prog.underlying 135).isSome = true ∧ sizesOk Try.prog 135 = false ∧ zeroOf Try.prog 135 = some [AV.v Value.nilFunc] ∧ flatK Try.prog 40 135 = none ∧ Try.prog.eqGuardType Try.prog.depth 135 = false := by
  refine ⟨?_, ?_, ?_, ?_, ?_, ?_, ?_, ?_, ?_, ?_, ?_, ?_, ?_, ?_, ?_⟩ <;> kernel_rfl
@[simp] theorem tj_136 :
    szOf Try.prog 136 = some 1 ∧ isAggT Try.prog 136 = some false ∧ isSl Try.prog 136 = none ∧ isArr Try.prog 136 = none ∧ isStr Try.prog 136 = false ∧ isInt Try.prog 136 = none ∧ isU8 Try.prog 136 = false ∧ isBool Try.prog 136 = false ∧ nkT Try.prog 136 = some NK.func ∧ (Try.prog.info? 136).map (·.bytes) = some 8 ∧ (Try.prog.underlying 136).isSome = true ∧ sizesOk Try.prog 136 = false ∧ zeroOf Try.prog 136 = some [AV.v Value.nilFunc] ∧ flatK Try.prog 40 136 = none ∧ Try.prog.eqGuardType Try.prog.depth 136 = false := by
  refine ⟨?_, ?_, ?_, ?_, ?_, ?_, ?_, ?_, ?_, ?_, ?_, ?_, ?_, ?_, ?_⟩ <;> kernel_rfl
@[simp] theorem tj_137 :
    szOf Try.prog 137 = some 1 ∧ isAggT Try.prog 137 = some false ∧ isSl Try.prog 137 = none ∧ isArr Try.prog 137 = none ∧ isStr Try.prog 137 = false ∧ isInt Try.prog 137 = some IntKind.u64 ∧ isU8 Try.prog 137 = false ∧ isBool Try.prog 137 = false ∧ nkT Try.prog 137 = none ∧ (Try.prog.info? 137).map (·.bytes) = some 8 ∧ (Try.prog.underlying 137).isSome = true ∧ sizesOk Try.prog 137 = false ∧ zeroOf Try.prog 137 = some [AV.v (Value.int IntKind.u64 (Int.ofNat 0))] ∧ flatK Try.prog 40 137 = some [LK.int] ∧ Try.prog.eqGuardType Try.prog.depth 137 = false := by
  refine ⟨?_, ?_, ?_, ?_, ?_, ?_, ?_, ?_, ?_, ?_, ?_, ?_, ?_, ?_, ?_⟩ <;> kernel_rfl
@[simp] theorem tj_138 :
    szOf Try.prog 138 = some 1 ∧ isAggT Try.prog 138 = some false ∧ isSl Try.prog 138 = none ∧ isArr Try.prog 138 = none ∧ isStr Try.prog 138 = false ∧ isInt Try.prog 138 = none ∧ isU8 Try.prog 138 = false ∧ isBool Try.prog 138 = false ∧ nkT Try.prog 138 = some NK.func ∧ (Try.prog.info? 138).map (·.bytes) = some 8 ∧ (Try.prog.underlying 138).isSome = true ∧ sizesOk Try.prog 138 = false ∧ zeroOf Try.prog 138 = some [AV.v Value.nilFunc] ∧ flatK Try.prog 40 138 = none ∧ Try.prog.eqGuardType Try.prog.depth 138 = false := by
  refine ⟨?_, ?_, ?_, ?_, ?_, ?_, ?_, ?_, ?_, ?_, ?_, ?_, ?_, ?_, ?_⟩ <;> kernel_rfl
@[simp] theorem tj_139 :
    szOf Try.prog 139 = some 1 ∧ isAggT Try.prog 139 = some false ∧ isSl Try.prog 139 = none ∧ isArr Try.prog 139 = none ∧ isStr Try.prog 139 = false ∧ isInt Try.prog 139 = none ∧ isU8 Try.prog 139 = false ∧ isBool Try.prog 139 = false ∧ nkT Try.prog 139 = some NK.func ∧ (Try.prog.info? 139).map (·.bytes) = some 8 ∧ (Try.prog.underlying 139).isSome = true ∧ sizesOk Try.prog 139 = false ∧ zeroOf Try.prog 139 = some [AV.v Value.nilFunc] ∧ flatK Try.prog 40 139 = none ∧ Try.prog.eqGuardType Try.prog.depth 139 = false := by
  refine ⟨?_, ?_, ?_, ?_, ?_, ?_, ?_, ?_, ?_, ?_, ?_, ?_, ?_, ?_, ?_⟩ <;> kernel_rfl
@[simp] theorem tj_140 :
    szOf Try.prog 140 = some 1 ∧ isAggT Try.prog 140 = some false ∧ isSl Try.prog 140 = none ∧ isArr Try.prog 140 = none ∧ isStr Try.prog 140 = false ∧ isInt Try.prog 140 = none ∧ isU8 Try.prog 140 = false ∧ isBool Try.prog 140 = false ∧ nkT Try.prog 140 = some NK.func ∧ (Try.prog.info? 140).map (·.bytes) = some 8 ∧ (Try.prog.underlying 140).isSome = true ∧ sizesOk Try.prog 140 = false ∧ zeroOf Try.prog 140 = some [AV.v Value.nilFunc] ∧ flatK Try.prog 40 140 = none ∧ Try.prog.eqGuardType Try.prog.depth 140 = false := by
  refine ⟨?_, ?_, ?_, ?_, ?_, ?_, ?_, ?_, ?_, ?_, ?_, ?_, ?_, ?_, ?_⟩ <;> kernel_rfl
@[simp] theorem tj_141 :
    szOf Try.prog 141 = some 1 ∧ isAggT Try.prog 141 = some false ∧ isSl Try.prog 141 = none ∧ isArr Try.prog 141 = none ∧ isStr Try.prog 141 = false ∧ isInt Try.prog 141 = none ∧ isU8 Try.prog 141 = false ∧ isBool Try.prog 141 = false ∧ nkT Try.prog 141 = some NK.ptr ∧ (Try.prog.info? 141).map (·.bytes) = some 8 ∧ (Try.prog.underlying 141).isSome = true ∧ sizesOk Try.prog 141 = false ∧ zeroOf Try.prog 141 = some [AV.v (Value.pointer none)] ∧ flatK Try.prog 40 141 = none ∧ Try.prog.eqGuardType Try.prog.depth 141 = false := by
  refine ⟨?_, ?_, ?_, ?_, ?_, ?_, ?_, ?_, ?_, ?_, ?_, ?_, ?_, ?_, ?_⟩ <;> kernel_rfl
@[simp] theorem tj_142 :
    szOf Try.prog 142 = some 1 ∧ isAggT Try.prog 142 = some false ∧ isSl Try.prog 142 = none ∧ isArr Try.prog 142 = none ∧ isStr Try.prog 142 = false ∧ isInt Try.prog 142 = none ∧ isU8 Try.prog 142 = false ∧ isBool Try.prog 142 = false ∧ nkT Try.prog 142 = some NK.func ∧ (Try.prog.info? 142).map (·.bytes) = some 8 ∧ (Try.prog.underlying 142).isSome = true ∧ sizesOk Try.prog 142 = false ∧ zeroOf Try.prog 142 = some [AV.v Value.nilFunc] ∧ flatK Try.prog 40 142 = none ∧ Try.prog.eqGuardType Try.prog.depth 142 = false := by
  refine ⟨?_, ?_, ?_, ?_, ?_, ?_, ?_, ?_, ?_, ?_, ?_, ?_, ?_, ?_, ?_⟩ <;> kernel_rfl
@[simp] theorem tj_143 :
    szOf Try.prog 143 = some 1 ∧ isAggT Try.prog 143 = some false ∧ isSl Try.prog 143 = none ∧ isArr Try.prog 143 = none ∧ isStr Try.prog 143 = false ∧ isInt Try.prog 143 = none ∧ isU8 Try.prog 143 = false ∧ isBool Try.prog 143 = false ∧ nkT Try.prog 143 = some NK.ptr ∧ (Try.prog.info? 143).map (·.bytes) = some 8 ∧ (Try.prog.underlying 143).isSome = true ∧ sizesOk Try.prog 143 = false ∧ zeroOf Try.prog 143 = some [AV.v (Value.pointer none)] ∧ flatK Try.prog 40 143 = none ∧ Try.prog.eqGuardType Try.prog.depth 143 = false := by
  refine ⟨?_, ?_, ?_, ?_, ?_, ?_, ?_, ?_, ?_, ?_, ?_, ?_, ?_, ?_, ?_⟩ <;> kernel_rfl
@[simp] theorem tj_144 :
    szOf Try.prog 144 = some 1 ∧ isAggT Try.prog 144 = some false ∧ isSl Try.prog 144 = none ∧ isArr Try.prog 144 = none ∧ isStr Try.prog 144 = false ∧ isInt Try.prog 144 = none ∧ isU8 Try.prog 144 = false ∧ isBool Try.prog 144 = false ∧ nkT Try.prog 144 = none ∧ (Try.prog.info? 144).map (·.bytes) = some 0 ∧ (Try.prog.underlying 144).isSome = true ∧ sizesOk Try.prog 144 = false ∧ flatK Try.prog 40 144 = none ∧ Try.prog.eqGuardType Try.prog.depth 144 = false := by
  refine ⟨?_, ?_, ?_, ?_, ?_, ?_, ?_, ?_, ?_, ?_, ?_, ?_, ?_, ?_⟩ <;> kernel_rfl
@[simp] theorem tj_145 :
    szOf Try.prog 145 = some 1 ∧ isAggT Try.prog 145 = some false ∧ isSl Try.prog 145 = none ∧ isArr Try.prog 145 = none ∧ isStr Try.prog 145 = false ∧ isInt Try.prog 145 = none ∧ isU8 Try.prog 145 = false ∧ isBool Try.prog 145 = false ∧ nkT Try.prog 145 = some NK.func ∧ (Try.prog.info? 145).map (·.bytes) = some 8 ∧ (Try.prog.underlying 145).isSome = true ∧ sizesOk Try.prog 145 = false ∧ zeroOf Try.prog 145 = some [AV.v Value.nilFunc] ∧ flatK Try.prog 40 145 = none ∧ Try.prog.eqGuardType Try.prog.depth 145 = false := by
  refine ⟨?_, ?_, ?_, ?_, ?_, ?_, ?_, ?_, ?_, ?_, ?_, ?_, ?_, ?_, ?_⟩ <;> kernel_rfl
@[simp] theorem tj_146 :
    szOf Try.prog 146 = some 1 ∧ isAggT Try.prog 146 = some false ∧ isSl Try.prog 146 = none ∧ isArr Try.prog 146 = none ∧ isStr Try.prog 146 = false ∧ isInt Try.prog 146 = none ∧ isU8 Try.prog 146 = false ∧ isBool Try.prog 146 = false ∧ nkT Try.prog 146 = some NK.func ∧ (Try.prog.info? 146).map (·.bytes) = some 8 ∧ (Try.prog.underlying 146).isSome = true ∧ sizesOk Try.prog 146 = false ∧ zeroOf Try.prog 146 = some [AV.v Value.nilFunc] ∧ flatK Try.prog 40 146 = none ∧ Try.prog.eqGuardType Try.prog.depth 146 = false := by
  refine ⟨?_, ?_, ?_, ?_, ?_, ?_, ?_, ?_, ?_, ?_, ?_, ?_, ?_, ?_, ?_⟩ <;> kernel_rfl
@[simp] theorem tj_147 :
    szOf Try.prog 147 = some 4 ∧ isAggT Try.prog 147 = some true ∧ isSl Try.prog 147 = none ∧ isArr Try.prog 147 = none ∧ isStr Try.prog 147 = false ∧ isInt Try.prog 147 = none ∧ isU8 Try.prog 147 = false ∧ isBool Try.prog 147 = false ∧ nkT Try.prog 147 = none ∧ (Try.prog.info? 147).map (·.bytes) = some 40 ∧ (Try.prog.underlying 147).isSome = true ∧ sizesOk Try.prog 147 = true ∧ zeroOf Try.prog 147 = some [AV.v (Value.pointer none), AV.v (Value.pointer none), AV.v (Value.pointer none), AV.v (Value.string { data := #[] })] ∧ flatK Try.prog 40 147 = none ∧ Try.prog.eqGuardType Try.prog.depth 147 = false := by
  refine ⟨?_, ?_, ?_, ?_, ?_, ?_, ?_, ?_, ?_, ?_, ?_, ?_, ?_, ?_, ?_⟩ <;> kernel_rfl
@[simp] theorem tb_fd147_0 : fieldOf Try.prog 147 0 = some (0, 17) := by kernel_rfl
@[simp] theorem tb_fd147_1 : fieldOf Try.prog 147 1 = some (1, 17) := by kernel_rfl
@[simp] theorem tb_fd147_2 : fieldOf Try.prog 147 2 = some (2, 17) := by kernel_rfl
@[simp] theorem tb_fd147_3 : fieldOf Try.prog 147 3 = some (3, 9) := by kernel_rfl
@[simp] theorem tj_148 :
    szOf Try.prog 148 = some 4 ∧ isAggT Try.prog 148 = some true ∧ isSl Try.prog 148 = none ∧ isArr Try.prog 148 = none ∧ isStr Try.prog 148 = false ∧ isInt Try.prog 148 = none ∧ isU8 Try.prog 148 = false ∧ isBool Try.prog 148 = false ∧ nkT Try.prog 148 = none ∧ (Try.prog.info? 148).map (·.bytes) = some 40 ∧ (Try.prog.underlying 148).isSome = true ∧ sizesOk Try.prog 148 = true ∧ zeroOf Try.prog 148 = some [AV.v (Value.pointer none), AV.v (Value.pointer none), AV.v (Value.pointer none), AV.v (Value.string { data := #[] })] ∧ flatK Try.prog 40 148 = none ∧ Try.prog.eqGuardType Try.prog.depth 148 = false := by
  refine ⟨?_, ?_, ?_, ?_, ?_, ?_, ?_, ?_, ?_, ?_, ?_, ?_, ?_, ?_, ?_⟩ <;> kernel_rfl
@[simp] theorem tb_fd148_0 : fieldOf Try.prog 148 0 = some (0, 17) := by kernel_rfl
@[simp] theorem tb_fd148_1 : fieldOf Try.prog 148 1 = some (1, 17) := by kernel_rfl
@[simp] theorem tb_fd148_2 : fieldOf Try.prog 148 2 = some (2, 17) := by kernel_rfl
@[simp] theorem tb_fd148_3 : fieldOf Try.prog 148 3 = some (3, 9) := by kernel_rfl
@[simp] theorem tj_149 :
    szOf Try.prog 149 = some 0 ∧ isAggT Try.prog 149 = some true ∧ isSl Try.prog 149 = none ∧ isArr Try.prog 149 = some (0, 16) ∧ isStr Try.prog 149 = false ∧ isInt Try.prog 149 = none ∧ isU8 Try.prog 149 = false ∧ isBool Try.prog 149 = false ∧ nkT Try.prog 149 = none ∧ (Try.prog.info? 149).map (·.bytes) = some 0 ∧ (Try.prog.underlying 149).isSome = true ∧ sizesOk Try.prog 149 = true ∧ zeroOf Try.prog 149 = some [] ∧ flatK Try.prog 40 149 = none ∧ Try.prog.eqGuardType Try.prog.depth 149 = false := by
  refine ⟨?_, ?_, ?_, ?_, ?_, ?_, ?_, ?_, ?_, ?_, ?_, ?_, ?_, ?_, ?_⟩ <;> kernel_rfl
@[simp] theorem tj_150 :
    szOf Try.prog 150 = some 0 ∧ isAggT Try.prog 150 = some true ∧ isSl Try.prog 150 = none ∧ isArr Try.prog 150 = none ∧ isStr Try.prog 150 = false ∧ isInt Try.prog 150 = none ∧ isU8 Try.prog 150 = false ∧ isBool Try.prog 150 = false ∧ nkT Try.prog 150 = none ∧ (Try.prog.info? 150).map (·.bytes) = some 0 ∧ (Try.prog.underlying 150).isSome = true ∧ sizesOk Try.prog 150 = true ∧ zeroOf Try.prog 150 = some [] ∧ flatK Try.prog 40 150 = none ∧ Try.prog.eqGuardType Try.prog.depth 150 = false := by
  refine ⟨?_, ?_, ?_, ?_, ?_, ?_, ?_, ?_, ?_, ?_, ?_, ?_, ?_, ?_, ?_⟩ <;> kernel_rfl
@[simp] theorem tb_fd150_0 : fieldOf Try.prog 150 0 = some (0, 149) := by kernel_rfl
@[simp] theorem tj_151 :
    szOf Try.prog 151 = some 0 ∧ isAggT Try.prog 151 = some true ∧ isSl Try.prog 151 = none ∧ isArr Try.prog 151 = none ∧ isStr Try.prog 151 = false ∧ isInt Try.prog 151 = none ∧ isU8 Try.prog 151 = false ∧ isBool Try.prog 151 = false ∧ nkT Try.prog 151 = none ∧ (Try.prog.info? 151).map (·.bytes) = some 0 ∧ (Try.prog.underlying 151).isSome = true ∧ sizesOk Try.prog 151 = true ∧ zeroOf Try.prog 151 = some [] ∧ flatK Try.prog 40 151 = none ∧ Try.prog.eqGuardType Try.prog.depth 151 = false := by
  refine ⟨?_, ?_, ?_, ?_, ?_, ?_, ?_, ?_, ?_, ?_, ?_, ?_, ?_, ?_, ?_⟩ <;> kernel_rfl
@[simp] theorem tb_fd151_0 : fieldOf Try.prog 151 0 = some (0, 149) := by kernel_rfl
@[simp] theorem tj_152 :
    szOf Try.prog 152 = some 1 ∧ isAggT Try.prog 152 = some false ∧ isSl Try.prog 152 = none ∧ isArr Try.prog 152 = none ∧ isStr Try.prog 152 = false ∧ isInt Try.prog 152 = some IntKind.u8 ∧ isU8 Try.prog 152 = true ∧ isBool Try.prog 152 = false ∧ nkT Try.prog 152 = none ∧ (Try.prog.info? 152).map (·.bytes) = some 1 ∧ (Try.prog.underlying 152).isSome = true ∧ sizesOk Try.prog 152 = false ∧ zeroOf Try.prog 152 = some [AV.v (Value.int IntKind.u8 (Int.ofNat 0))] ∧ flatK Try.prog 40 152 = some [LK.int] ∧ Try.prog.eqGuardType Try.prog.depth 152 = false := by
  refine ⟨?_, ?_, ?_, ?_, ?_, ?_, ?_, ?_, ?_, ?_, ?_, ?_, ?_, ?_, ?_⟩ <;> kernel_rfl
@[simp] theorem tj_153 :
    szOf Try.prog 153 = some 1 ∧ isAggT Try.prog 153 = some false ∧ isSl Try.prog 153 = none ∧ isArr Try.prog 153 = none ∧ isStr Try.prog 153 = false ∧ isInt Try.prog 153 = some IntKind.u8 ∧ isU8 Try.prog 153 = true ∧ isBool Try.prog 153 = false ∧ nkT Try.prog 153 = none ∧ (Try.prog.info? 153).map (·.bytes) = some 1 ∧ (Try.prog.underlying 153).isSome = true ∧ sizesOk Try.prog 153 = false ∧ zeroOf Try.prog 153 = some [AV.v (Value.int IntKind.u8 (Int.ofNat 0))] ∧ flatK Try.prog 40 153 = some [LK.int] ∧ Try.prog.eqGuardType Try.prog.depth 153 = false := by
  refine ⟨?_, ?_, ?_, ?_, ?_, ?_, ?_, ?_, ?_, ?_, ?_, ?_, ?_, ?_, ?_⟩ <;> kernel_rfl
@[simp] theorem tj_154 :
    szOf Try.prog 154 = some 1 ∧ isAggT Try.prog 154 = some false ∧ isSl Try.prog 154 = none ∧ isArr Try.prog 154 = none ∧ isStr Try.prog 154 = false ∧ isInt Try.prog 154 = none ∧ isU8 Try.prog 154 = false ∧ isBool Try.prog 154 = false ∧ nkT Try.prog 154 = some NK.func ∧ (Try.prog.info? 154).map (·.bytes) = some 8 ∧ (Try.prog.underlying 154).isSome = true ∧ sizesOk Try.prog 154 = false ∧ zeroOf Try.prog 154 = some [AV.v Value.nilFunc] ∧ flatK Try.prog 40 154 = none ∧ Try.prog.eqGuardType Try.prog.depth 154 = false := by
  refine ⟨?_, ?_, ?_, ?_, ?_, ?_, ?_, ?_, ?_, ?_, ?_, ?_, ?_, ?_, ?_⟩ <;> kernel_rfl
@[simp] theorem tj_155 :
    szOf Try.prog 155 = some 1 ∧ isAggT Try.prog 155 = some false ∧ isSl Try.prog 155 = none ∧ isArr Try.prog 155 = none ∧ isStr Try.prog 155 = false ∧ isInt Try.prog 155 = none ∧ isU8 Try.prog 155 = false ∧ isBool Try.prog 155 = false ∧ nkT Try.prog 155 = some NK.ptr ∧ (Try.prog.info? 155).map (·.bytes) = some 8 ∧ (Try.prog.underlying 155).isSome = true ∧ sizesOk Try.prog 155 = false ∧ zeroOf Try.prog 155 = some [AV.v (Value.pointer none)] ∧ flatK Try.prog 40 155 = none ∧ Try.prog.eqGuardType Try.prog.depth 155 = false := by
  refine ⟨?_, ?_, ?_, ?_, ?_, ?_, ?_, ?_, ?_, ?_, ?_, ?_, ?_, ?_, ?_⟩ <;> kernel_rfl
@[simp] theorem tj_156 :
    szOf Try.prog 156 = some 1 ∧ isAggT Try.prog 156 = some false ∧ isSl Try.prog 156 = none ∧ isArr Try.prog 156 = none ∧ isStr Try.prog 156 = false ∧ isInt Try.prog 156 = some IntKind.i32 ∧ isU8 Try.prog 156 = false ∧ isBool Try.prog 156 = false ∧ nkT Try.prog 156 = none ∧ (Try.prog.info? 156).map (·.bytes) = some 4 ∧ (Try.prog.underlying 156).isSome = true ∧ sizesOk Try.prog 156 = false ∧ zeroOf Try.prog 156 = some [AV.v (Value.int IntKind.i32 (Int.ofNat 0))] ∧ flatK Try.prog 40 156 = some [LK.int] ∧ Try.prog.eqGuardType Try.prog.depth 156 = false := by
  refine ⟨?_, ?_, ?_, ?_, ?_, ?_, ?_, ?_, ?_, ?_, ?_, ?_, ?_, ?_, ?_⟩ <;> kernel_rfl
@[simp] theorem tj_157 :
    szOf Try.prog 157 = some 1 ∧ isAggT Try.prog 157 = some false ∧ isSl Try.prog 157 = none ∧ isArr Try.prog 157 = none ∧ isStr Try.prog 157 = false ∧ isInt Try.prog 157 = some IntKind.i32 ∧ isU8 Try.prog 157 = false ∧ isBool Try.prog 157 = false ∧ nkT Try.prog 157 = none ∧ (Try.prog.info? 157).map (·.bytes) = some 4 ∧ (Try.prog.underlying 157).isSome = true ∧ sizesOk Try.prog 157 = false ∧ zeroOf Try.prog 157 = some [AV.v (Value.int IntKind.i32 (Int.ofNat 0))] ∧ flatK Try.prog 40 157 = some [LK.int] ∧ Try.prog.eqGuardType Try.prog.depth 157 = false := by
  refine ⟨?_, ?_, ?_, ?_, ?_, ?_, ?_, ?_, ?_, ?_, ?_, ?_, ?_, ?_, ?_⟩ <;> kernel_rfl
@[simp] theorem tj_158 :
    szOf Try.prog 158 = some 11 ∧ isAggT Try.prog 158 = some true ∧ isSl Try.prog 158 = none ∧ isArr Try.prog 158 = none ∧ isStr Try.prog 158 = false ∧ isInt Try.prog 158 = none ∧ isU8 Try.prog 158 = false ∧ isBool Try.prog 158 = false ∧ nkT Try.prog 158 = none ∧ (Try.prog.info? 158).map (·.bytes) = some 48 ∧ (Try.prog.underlying 158).isSome = true ∧ sizesOk Try.prog 158 = true ∧ zeroOf Try.prog 158 = some [AV.v (Value.int IntKind.u64 (Int.ofNat 0)), AV.v (Value.int IntKind.u64 (Int.ofNat 0)), AV.v (Value.int IntKind.u32 (Int.ofNat 0)), AV.v (Value.int IntKind.u8 (Int.ofNat 0)), AV.v (Value.int IntKind.u8 (Int.ofNat 0)), AV.v (Value.int IntKind.u8 (Int.ofNat 0)), AV.v (Value.int IntKind.u8 (Int.ofNat 0)), AV.v Value.nilFunc, AV.v (Value.pointer none), AV.v (Value.int IntKind.i32 (Int.ofNat 0)), AV.v (Value.int IntKind.i32 (Int.ofNat 0))] ∧ flatK Try.prog 40 158 = none ∧ Try.prog.eqGuardType Try.prog.depth 158 = false := by
  refine ⟨?_, ?_, ?_, ?_, ?_, ?_, ?_, ?_, ?_, ?_, ?_, ?_, ?_, ?_, ?_⟩ <;> kernel_rfl
@[simp] theorem tb_fd158_0 : fieldOf Try.prog 158 0 = some (0, 12) := by kernel_rfl
@[simp] theorem tb_fd158_1 : fieldOf Try.prog 158 1 = some (1, 12) := by kernel_rfl
@[simp] theorem tb_fd158_2 : fieldOf Try.prog 158 2 = some (2, 22) := by kernel_rfl
@[simp] theorem tb_fd158_3 : fieldOf Try.prog 158 3 = some (3, 152) := by kernel_rfl
@[simp] theorem tb_fd158_4 : fieldOf Try.prog 158 4 = some (4, 5) := by kernel_rfl
@[simp] theorem tb_fd158_5 : fieldOf Try.prog 158 5 = some (5, 5) := by kernel_rfl
@[simp] theorem tb_fd158_6 : fieldOf Try.prog 158 6 = some (6, 153) := by kernel_rfl
@[simp] theorem tb_fd158_7 : fieldOf Try.prog 158 7 = some (7, 154) := by kernel_rfl
@[simp] theorem tb_fd158_8 : fieldOf Try.prog 158 8 = some (8, 155) := by kernel_rfl
@[simp] theorem tb_fd158_9 : fieldOf Try.prog 158 9 = some (9, 156) := by kernel_rfl
@[simp] theorem tb_fd158_10 : fieldOf Try.prog 158 10 = some (10, 157) := by kernel_rfl
@[simp] theorem tj_159 :
    szOf Try.prog 159 = some 11 ∧ isAggT Try.prog 159 = some true ∧ isSl Try.prog 159 = none ∧ isArr Try.prog 159 = none ∧ isStr Try.prog 159 = false ∧ isInt Try.prog 159 = none ∧ isU8 Try.prog 159 = false ∧ isBool Try.prog 159 = false ∧ nkT Try.prog 159 = none ∧ (Try.prog.info? 159).map (·.bytes) = some 48 ∧ (Try.prog.underlying 159).isSome = true ∧ sizesOk Try.prog 159 = true ∧ zeroOf Try.prog 159 = some [AV.v (Value.int IntKind.u64 (Int.ofNat 0)), AV.v (Value.int IntKind.u64 (Int.ofNat 0)), AV.v (Value.int IntKind.u32 (Int.ofNat 0)), AV.v (Value.int IntKind.u8 (Int.ofNat 0)), AV.v (Value.int IntKind.u8 (Int.ofNat 0)), AV.v (Value.int IntKind.u8 (Int.ofNat 0)), AV.v (Value.int IntKind.u8 (Int.ofNat 0)), AV.v Value.nilFunc, AV.v (Value.pointer none), AV.v (Value.int IntKind.i32 (Int.ofNat 0)), AV.v (Value.int IntKind.i32 (Int.ofNat 0))] ∧ flatK Try.prog 40 159 = none ∧ Try.prog.eqGuardType Try.prog.depth 159 = false := by
  refine ⟨?_, ?_, ?_, ?_, ?_, ?_, ?_, ?_, ?_, ?_, ?_, ?_, ?_, ?_, ?_⟩ <;> kernel_rfl
@[simp] theorem tb_fd159_0 : fieldOf Try.prog 159 0 = some (0, 12) := by kernel_rfl
@[simp] theorem tb_fd159_1 : fieldOf Try.prog 159 1 = some (1, 12) := by kernel_rfl
@[simp] theorem tb_fd159_2 : fieldOf Try.prog 159 2 = some (2, 22) := by kernel_rfl
@[simp] theorem tb_fd159_3 : fieldOf Try.prog 159 3 = some (3, 152) := by kernel_rfl
@[simp] theorem tb_fd159_4 : fieldOf Try.prog 159 4 = some (4, 5) := by kernel_rfl
@[simp] theorem tb_fd159_5 : fieldOf Try.prog 159 5 = some (5, 5) := by kernel_rfl
@[simp] theorem tb_fd159_6 : fieldOf Try.prog 159 6 = some (6, 153) := by kernel_rfl
@[simp] theorem tb_fd159_7 : fieldOf Try.prog 159 7 = some (7, 154) := by kernel_rfl
@[simp] theorem tb_fd159_8 : fieldOf Try.prog 159 8 = some (8, 155) := by kernel_rfl
@[simp] theorem tb_fd159_9 : fieldOf Try.prog 159 9 = some (9, 156) := by kernel_rfl
@[simp] theorem tb_fd159_10 : fieldOf Try.prog 159 10 = some (10, 157) := by kernel_rfl
@[simp] theorem tj_160 :
    szOf Try.prog 160 = some 1 ∧ isAggT Try.prog 160 = some false ∧ isSl Try.prog 160 = none ∧ isArr Try.prog 160 = none ∧ isStr Try.prog 160 = false ∧ isInt Try.prog 160 = none ∧ isU8 Try.prog 160 = false ∧ isBool Try.prog 160 = false ∧ nkT Try.prog 160 = none ∧ (Try.prog.info? 160).map (·.bytes) = some 8 ∧ (Try.prog.underlying 160).isSome = true ∧ sizesOk Try.prog 160 = false ∧ zeroOf Try.prog 160 = some [AV.v (Value.pointer none)] ∧ flatK Try.prog 40 160 = none ∧ Try.prog.eqGuardType Try.prog.depth 160 = false := by
  refine ⟨?_, ?_, ?_, ?_, ?_, ?_, ?_, ?_, ?_, ?_, ?_, ?_, ?_, ?_, ?_⟩ <;> kernel_rfl
def Dm : Nat → Nat → List Nat
  | 3, 14 => [0, 1, 3, 7, 15, 31, 63, 127, 15, 271, 1023, 2047, 4095, 8191, 16383, 32767, 65535, 131071, 262143, 131071, 1048575, 2097151, 4194303, 8388607, 16777215, 33554431, 67108863]
  | 7, 17 => [0, 0, 2, 0, 8, 31, 0, 0, 128, 0, 512, 2047, 4095, 8191]
  | 7, 19 => [0, 0, 2, 7, 0, 0, 32, 127, 255, 511]
  | 7, 21 => [0, 0, 2, 0, 8, 31, 0, 0, 128, 0, 512, 2047, 4095, 8191]
  | 7, 30 => [0, 0, 3, 7, 0, 0, 48, 112, 255, 511]
  | 7, 43 => [0, 1, 3, 7, 0, 16, 48, 112, 255, 511, 0]
  | 9, 7 => [0, 1, 3, 7, 15, 31, 63, 127, 255, 511, 1023, 2047, 4095, 8191, 16383, 32767, 65535, 131071, 262143, 524287, 1048575, 131071, 2228223, 8388607, 16777215, 33554431, 67108863, 134217727, 268435455, 536870911, 67108863, 1140850687, 4294967295, 8589934591, 17179869183, 34359738367, 68719476735, 137438953471, 274877906943, 549755813887, 1099511627775, 2199023255551, 4398046511103, 8796093022207, 17592186044415, 35184372088831, 70368744177663, 140737488355327, 281474976710655, 562949953421311, 1125899906842623, 2251799813685247, 4503599627370495, 9007199254740991, 18014398509481983, 18014398509481983, 72057594037927935, 144115188075855871, 288230376151711743]
  | 10, 16 => [0, 0, 2, 6, 14, 31, 0, 127, 0, 256, 768, 2047, 4095, 8191]
  | 11, 9 => [0, 1, 3, 7, 0, 16, 63, 127, 255, 255, 0, 1535, 4095]
  | 11, 13 => [0, 1, 3, 7, 15, 31, 63, 127, 7, 263, 775, 1799, 4095, 8191, 16383]
  | 11, 15 => [0, 1, 0, 4, 3, 31, 63]
  | 11, 17 => [0, 1, 0, 3, 15, 31]
  | 11, 20 => [0, 1, 3, 7, 0, 16, 0, 0, 128, 448, 1023]
  | 11, 21 => [0, 0, 1, 7, 15]
  | 11, 25 => [0, 1, 3, 7, 0, 16, 0, 127]
  | 13, 8 => [0, 1, 3, 7, 0, 16, 63]
  | 13, 10 => [0, 1, 3, 7, 0, 31]
  | 19, 6 => [0, 1, 0, 4, 0, 16, 48, 112, 255, 511, 1023]
  | 21, 7 => [0, 1, 0, 4, 12, 28, 63]
  | 21, 8 => [0, 1, 0, 4, 0, 16, 48, 112, 255, 0, 512, 0, 2048, 6144, 0, 16384, 49152, 114688, 262143, 524287]
  | 21, 10 => [0, 1, 3, 7, 0, 0, 32, 0, 128, 384, 992, 2047]
  | 23, 6 => [0, 1, 0, 4, 12, 28, 63]
  | 26, 3 => [0, 1, 3, 7, 0, 16, 48, 112, 240, 511, 1023, 2047]
  | 28, 4 => [0, 0, 0, 4, 12, 28, 0, 124, 254, 0, 512, 1536, 3584, 0, 8192, 32256, 65534, 131071, 262143, 524287]
  | 30, 6 => [0, 1, 3, 7, 0, 31, 63, 127, 0, 256, 768, 1792, 0, 7936, 16128, 32512, 0, 65536, 196608, 458752, 1048575, 2097151]
  | 30, 7 => [0, 1, 3, 7, 0, 0, 32, 96, 224, 0, 992, 2016, 4064, 8160, 0, 16384, 49152, 114688, 262112, 524287, 1048575, 2097151]
  | 30, 8 => [0, 1, 3, 7, 0, 31, 63, 127, 0, 256, 768, 1792, 0, 7936, 16128, 32512, 0, 65536, 196608, 458752, 1048575, 0, 4194303]
  | 32, 5 => [0, 1, 3, 7, 0, 31, 63, 127, 0, 256, 768, 1792, 4095]
  | 33, 4 => [0, 1, 3, 7, 0, 31, 63, 127, 0, 256, 768, 1792, 0, 7936, 16128, 32512, 0, 65536, 196608, 458752, 1048575, 2097151, 4194303]
  | 45, 8 => [0, 1, 3, 7, 0, 0, 0, 64, 224, 511]
  | 51, 4 => [0, 0, 0, 4, 12, 28, 60, 126, 254, 510, 1022, 2046, 4094, 510, 16382, 32766, 65534, 510, 262142, 524286, 511, 2097151]
  | 56, 3 => [0, 1, 3, 7, 15, 31, 0, 64, 255, 511]
  | 56, 10 => [0, 1, 3, 7, 0, 16, 48, 112, 240, 496, 127, 1151, 4095, 8191]
  | 56, 13 => [0, 1, 3, 0, 8, 24, 63, 127, 255]
  | 56, 14 => [0, 1, 3, 0, 8, 31]
  | 56, 15 => [0, 1, 3, 0, 8, 31]
  | 57, 11 => [0, 1, 3, 7, 0, 16, 48, 112, 0, 256, 768, 1792, 0, 4864, 13056, 32512, 0, 65536, 196608, 524287, 1048575, 2097151]
  | 65, 1 => [0, 0, 3, 7, 15, 31, 0, 0, 128, 448, 960, 1984, 4095, 8191]
  | 67, 1 => [0, 0, 3, 7, 15, 31, 0, 0, 128, 448, 960, 1984, 4095, 8191]
  | 69, 17 => [0, 1, 3, 7, 7, 23, 63, 127, 7, 7, 775, 1799, 4095, 8191, 16383]
  | 72, 9 => [0, 0, 0, 4, 14, 30, 0, 0, 128, 384, 960, 1984, 4095]
  | 73, 4 => [0, 0, 3, 7, 15, 15, 63, 127, 15, 15, 527, 1807, 3855, 8191, 16383]
  | 73, 6 => [0, 0, 0, 0, 8, 0, 0, 64, 224, 480, 0, 0, 3072, 7168, 16355, 32739, 65535, 131071]
  | 74, 10 => [0, 0, 0, 0, 0, 24, 0, 0, 0, 384, 960, 1984, 0, 0, 12288, 28672, 65475, 131011, 262143, 524287]
  | 75, 10 => [0, 0, 0, 0, 0, 24, 0, 0, 0, 384, 960, 1984, 0, 0, 12288, 28672, 65475, 131011, 262143, 524287]
  | 77, 3 => [0, 0, 0, 0, 0, 0, 48, 112, 0, 0, 768, 1792, 4083, 8179, 16383, 32767]
  | 78, 5 => [0, 0, 3, 7, 15, 15, 63, 127, 15, 15, 527, 1807, 3855, 8191, 16383, 32767]
  | 78, 11 => [0, 0, 0, 0, 8, 0, 0, 64, 224, 480, 0, 0, 3072, 7168, 16355, 32739, 65535, 131071]
  | 78, 16 => [0, 0, 3, 7, 0, 0, 32, 112, 240, 511, 1023]
  | 78, 17 => [0, 0, 0, 0, 8, 0, 0, 64, 224, 480, 0, 0, 3072, 7168, 16355, 32739, 65535, 131071]
  | 78, 22 => [0, 0, 3, 7, 0, 0, 32, 112, 240, 511, 1023]
  | 78, 23 => [0, 0, 0, 0, 8, 0, 0, 64, 224, 480, 0, 0, 3072, 7168, 16355, 32739, 65535, 131071]
  | 80, 1 => [0, 0, 0, 0, 0, 0, 48, 112, 0, 0, 768, 1792, 4083, 8179, 16383, 32767]
  | 80, 3 => [0, 0, 3, 7, 15, 15, 63, 127, 15, 15, 783, 1807, 4095, 8191, 16383]
  | 80, 5 => [0, 0, 3, 7, 15, 15, 63, 127, 15, 15, 783, 1807, 4095, 8191]
  | 80, 8 => [0, 0, 0, 0, 0, 0, 48, 112, 0, 0, 768, 1792, 4083, 8179, 16383, 32767]
  | 81, 1 => [0, 0, 0, 0, 0, 0, 48, 112, 0, 0, 768, 1792, 4083, 8179, 16383, 32767]
  | 81, 3 => [0, 0, 3, 7, 15, 15, 63, 127, 15, 15, 783, 1807, 4095, 8191]
  | 81, 5 => [0, 0, 3, 7, 15, 15, 63, 127, 15, 15, 783, 1807, 4095, 8191, 16383]
  | 81, 8 => [0, 0, 0, 0, 0, 0, 48, 112, 0, 0, 768, 1792, 4083, 8179, 16383, 32767]
  | 81, 10 => [0, 0, 0, 0, 0, 0, 48, 112, 0, 0, 768, 1792, 4083, 8179, 16383, 32767]
  | 81, 13 => [0, 0, 3, 7, 15, 15, 63, 127, 15, 15, 783, 1807, 4095, 8191]
  | 81, 15 => [0, 0, 3, 7, 15, 15, 63, 127, 15, 15, 783, 1807, 4095, 8191, 16383]
  | 81, 18 => [0, 0, 0, 0, 0, 0, 48, 112, 0, 0, 768, 1792, 4083, 8179, 16383, 32767]
  | 81, 21 => [0, 0, 0, 0, 0, 0, 48, 112, 0, 0, 768, 1792, 4083, 8179, 16383, 32767]
  | 86, 3 => [0, 1, 0, 7, 15, 31, 31, 31, 223, 511, 1023, 31, 31, 31, 12319, 28703, 63519, 129055, 262143, 524287]
  | 86, 5 => [0, 0, 0, 6, 15, 31, 0, 0, 0, 384, 960, 1984, 4095, 8191]
  | 86, 6 => [0, 0, 0, 6, 0, 0, 0, 96, 0, 0, 0, 1536, 3840, 7936, 0, 0, 0, 98304, 245760, 507904, 1048335, 2096911, 4194303, 8388607]
  | 88, 1 => [0, 1, 3, 0, 8, 24, 56, 127, 255, 511]
  | 88, 2 => [0, 1, 3, 0, 8, 24, 56, 127, 255, 511]
  | 88, 3 => [0, 1, 3, 0, 8, 24, 56, 127, 255, 511]
  | 92, 1 => [0, 0, 3, 7, 0, 0, 48, 112, 255]
  | _, _ => []
@[simp] theorem dm_3_14 : Dm 3 14 = [0, 1, 3, 7, 15, 31, 63, 127, 15, 271, 1023, 2047, 4095, 8191, 16383, 32767, 65535, 131071, 262143, 131071, 1048575, 2097151, 4194303, 8388607, 16777215, 33554431, 67108863] := rfl
@[simp] theorem dm_7_17 : Dm 7 17 = [0, 0, 2, 0, 8, 31, 0, 0, 128, 0, 512, 2047, 4095, 8191] := rfl
@[simp] theorem dm_7_19 : Dm 7 19 = [0, 0, 2, 7, 0, 0, 32, 127, 255, 511] := rfl
@[simp] theorem dm_7_21 : Dm 7 21 = [0, 0, 2, 0, 8, 31, 0, 0, 128, 0, 512, 2047, 4095, 8191] := rfl
@[simp] theorem dm_7_30 : Dm 7 30 = [0, 0, 3, 7, 0, 0, 48, 112, 255, 511] := rfl
@[simp] theorem dm_7_43 : Dm 7 43 = [0, 1, 3, 7, 0, 16, 48, 112, 255, 511, 0] := rfl
@[simp] theorem dm_9_7 : Dm 9 7 = [0, 1, 3, 7, 15, 31, 63, 127, 255, 511, 1023, 2047, 4095, 8191, 16383, 32767, 65535, 131071, 262143, 524287, 1048575, 131071, 2228223, 8388607, 16777215, 33554431, 67108863, 134217727, 268435455, 536870911, 67108863, 1140850687, 4294967295, 8589934591, 17179869183, 34359738367, 68719476735, 137438953471, 274877906943, 549755813887, 1099511627775, 2199023255551, 4398046511103, 8796093022207, 17592186044415, 35184372088831, 70368744177663, 140737488355327, 281474976710655, 562949953421311, 1125899906842623, 2251799813685247, 4503599627370495, 9007199254740991, 18014398509481983, 18014398509481983, 72057594037927935, 144115188075855871, 288230376151711743] := rfl
@[simp] theorem dm_10_16 : Dm 10 16 = [0, 0, 2, 6, 14, 31, 0, 127, 0, 256, 768, 2047, 4095, 8191] := rfl
@[simp] theorem dm_11_9 : Dm 11 9 = [0, 1, 3, 7, 0, 16, 63, 127, 255, 255, 0, 1535, 4095] := rfl
@[simp] theorem dm_11_13 : Dm 11 13 = [0, 1, 3, 7, 15, 31, 63, 127, 7, 263, 775, 1799, 4095, 8191, 16383] := rfl
@[simp] theorem dm_11_15 : Dm 11 15 = [0, 1, 0, 4, 3, 31, 63] := rfl
@[simp] theorem dm_11_17 : Dm 11 17 = [0, 1, 0, 3, 15, 31] := rfl
@[simp] theorem dm_11_20 : Dm 11 20 = [0, 1, 3, 7, 0, 16, 0, 0, 128, 448, 1023] := rfl
@[simp] theorem dm_11_21 : Dm 11 21 = [0, 0, 1, 7, 15] := rfl
@[simp] theorem dm_11_25 : Dm 11 25 = [0, 1, 3, 7, 0, 16, 0, 127] := rfl
@[simp] theorem dm_13_8 : Dm 13 8 = [0, 1, 3, 7, 0, 16, 63] := rfl
@[simp] theorem dm_13_10 : Dm 13 10 = [0, 1, 3, 7, 0, 31] := rfl
@[simp] theorem dm_19_6 : Dm 19 6 = [0, 1, 0, 4, 0, 16, 48, 112, 255, 511, 1023] := rfl
@[simp] theorem dm_21_7 : Dm 21 7 = [0, 1, 0, 4, 12, 28, 63] := rfl
@[simp] theorem dm_21_8 : Dm 21 8 = [0, 1, 0, 4, 0, 16, 48, 112, 255, 0, 512, 0, 2048, 6144, 0, 16384, 49152, 114688, 262143, 524287] := rfl
@[simp] theorem dm_21_10 : Dm 21 10 = [0, 1, 3, 7, 0, 0, 32, 0, 128, 384, 992, 2047] := rfl
@[simp] theorem dm_23_6 : Dm 23 6 = [0, 1, 0, 4, 12, 28, 63] := rfl
@[simp] theorem dm_26_3 : Dm 26 3 = [0, 1, 3, 7, 0, 16, 48, 112, 240, 511, 1023, 2047] := rfl
@[simp] theorem dm_28_4 : Dm 28 4 = [0, 0, 0, 4, 12, 28, 0, 124, 254, 0, 512, 1536, 3584, 0, 8192, 32256, 65534, 131071, 262143, 524287] := rfl
@[simp] theorem dm_30_6 : Dm 30 6 = [0, 1, 3, 7, 0, 31, 63, 127, 0, 256, 768, 1792, 0, 7936, 16128, 32512, 0, 65536, 196608, 458752, 1048575, 2097151] := rfl
@[simp] theorem dm_30_7 : Dm 30 7 = [0, 1, 3, 7, 0, 0, 32, 96, 224, 0, 992, 2016, 4064, 8160, 0, 16384, 49152, 114688, 262112, 524287, 1048575, 2097151] := rfl
@[simp] theorem dm_30_8 : Dm 30 8 = [0, 1, 3, 7, 0, 31, 63, 127, 0, 256, 768, 1792, 0, 7936, 16128, 32512, 0, 65536, 196608, 458752, 1048575, 0, 4194303] := rfl
@[simp] theorem dm_32_5 : Dm 32 5 = [0, 1, 3, 7, 0, 31, 63, 127, 0, 256, 768, 1792, 4095] := rfl
@[simp] theorem dm_33_4 : Dm 33 4 = [0, 1, 3, 7, 0, 31, 63, 127, 0, 256, 768, 1792, 0, 7936, 16128, 32512, 0, 65536, 196608, 458752, 1048575, 2097151, 4194303] := rfl
@[simp] theorem dm_45_8 : Dm 45 8 = [0, 1, 3, 7, 0, 0, 0, 64, 224, 511] := rfl
@[simp] theorem dm_51_4 : Dm 51 4 = [0, 0, 0, 4, 12, 28, 60, 126, 254, 510, 1022, 2046, 4094, 510, 16382, 32766, 65534, 510, 262142, 524286, 511, 2097151] := rfl
@[simp] theorem dm_56_3 : Dm 56 3 = [0, 1, 3, 7, 15, 31, 0, 64, 255, 511] := rfl
@[simp] theorem dm_56_10 : Dm 56 10 = [0, 1, 3, 7, 0, 16, 48, 112, 240, 496, 127, 1151, 4095, 8191] := rfl
@[simp] theorem dm_56_13 : Dm 56 13 = [0, 1, 3, 0, 8, 24, 63, 127, 255] := rfl
@[simp] theorem dm_56_14 : Dm 56 14 = [0, 1, 3, 0, 8, 31] := rfl
@[simp] theorem dm_56_15 : Dm 56 15 = [0, 1, 3, 0, 8, 31] := rfl
@[simp] theorem dm_57_11 : Dm 57 11 = [0, 1, 3, 7, 0, 16, 48, 112, 0, 256, 768, 1792, 0, 4864, 13056, 32512, 0, 65536, 196608, 524287, 1048575, 2097151] := rfl
@[simp] theorem dm_65_1 : Dm 65 1 = [0, 0, 3, 7, 15, 31, 0, 0, 128, 448, 960, 1984, 4095, 8191] := rfl
@[simp] theorem dm_67_1 : Dm 67 1 = [0, 0, 3, 7, 15, 31, 0, 0, 128, 448, 960, 1984, 4095, 8191] := rfl
@[simp] theorem dm_69_17 : Dm 69 17 = [0, 1, 3, 7, 7, 23, 63, 127, 7, 7, 775, 1799, 4095, 8191, 16383] := rfl
@[simp] theorem dm_72_9 : Dm 72 9 = [0, 0, 0, 4, 14, 30, 0, 0, 128, 384, 960, 1984, 4095] := rfl
@[simp] theorem dm_73_4 : Dm 73 4 = [0, 0, 3, 7, 15, 15, 63, 127, 15, 15, 527, 1807, 3855, 8191, 16383] := rfl
@[simp] theorem dm_73_6 : Dm 73 6 = [0, 0, 0, 0, 8, 0, 0, 64, 224, 480, 0, 0, 3072, 7168, 16355, 32739, 65535, 131071] := rfl
@[simp] theorem dm_74_10 : Dm 74 10 = [0, 0, 0, 0, 0, 24, 0, 0, 0, 384, 960, 1984, 0, 0, 12288, 28672, 65475, 131011, 262143, 524287] := rfl
@[simp] theorem dm_75_10 : Dm 75 10 = [0, 0, 0, 0, 0, 24, 0, 0, 0, 384, 960, 1984, 0, 0, 12288, 28672, 65475, 131011, 262143, 524287] := rfl
@[simp] theorem dm_77_3 : Dm 77 3 = [0, 0, 0, 0, 0, 0, 48, 112, 0, 0, 768, 1792, 4083, 8179, 16383, 32767] := rfl
@[simp] theorem dm_78_5 : Dm 78 5 = [0, 0, 3, 7, 15, 15, 63, 127, 15, 15, 527, 1807, 3855, 8191, 16383, 32767] := rfl
@[simp] theorem dm_78_11 : Dm 78 11 = [0, 0, 0, 0, 8, 0, 0, 64, 224, 480, 0, 0, 3072, 7168, 16355, 32739, 65535, 131071] := rfl
@[simp] theorem dm_78_16 : Dm 78 16 = [0, 0, 3, 7, 0, 0, 32, 112, 240, 511, 1023] := rfl
@[simp] theorem dm_78_17 : Dm 78 17 = [0, 0, 0, 0, 8, 0, 0, 64, 224, 480, 0, 0, 3072, 7168, 16355, 32739, 65535, 131071] := rfl
@[simp] theorem dm_78_22 : Dm 78 22 = [0, 0, 3, 7, 0, 0, 32, 112, 240, 511, 1023] := rfl
@[simp] theorem dm_78_23 : Dm 78 23 = [0, 0, 0, 0, 8, 0, 0, 64, 224, 480, 0, 0, 3072, 7168, 16355, 32739, 65535, 131071] := rfl
@[simp] theorem dm_80_1 : Dm 80 1 = [0, 0, 0, 0, 0, 0, 48, 112, 0, 0, 768, 1792, 4083, 8179, 16383, 32767] := rfl
@[simp] theorem dm_80_3 : Dm 80 3 = [0, 0, 3, 7, 15, 15, 63, 127, 15, 15, 783, 1807, 4095, 8191, 16383] := rfl
@[simp] theorem dm_80_5 : Dm 80 5 = [0, 0, 3, 7, 15, 15, 63, 127, 15, 15, 783, 1807, 4095, 8191] := rfl
@[simp] theorem dm_80_8 : Dm 80 8 = [0, 0, 0, 0, 0, 0, 48, 112, 0, 0, 768, 1792, 4083, 8179, 16383, 32767] := rfl
@[simp] theorem dm_81_1 : Dm 81 1 = [0, 0, 0, 0, 0, 0, 48, 112, 0, 0, 768, 1792, 4083, 8179, 16383, 32767] := rfl
@[simp] theorem dm_81_3 : Dm 81 3 = [0, 0, 3, 7, 15, 15, 63, 127, 15, 15, 783, 1807, 4095, 8191] := rfl
@[simp] theorem dm_81_5 : Dm 81 5 = [0, 0, 3, 7, 15, 15, 63, 127, 15, 15, 783, 1807, 4095, 8191, 16383] := rfl
@[simp] theorem dm_81_8 : Dm 81 8 = [0, 0, 0, 0, 0, 0, 48, 112, 0, 0, 768, 1792, 4083, 8179, 16383, 32767] := rfl
@[simp] theorem dm_81_10 : Dm 81 10 = [0, 0, 0, 0, 0, 0, 48, 112, 0, 0, 768, 1792, 4083, 8179, 16383, 32767] := rfl
@[simp] theorem dm_81_13 : Dm 81 13 = [0, 0, 3, 7, 15, 15, 63, 127, 15, 15, 783, 1807, 4095, 8191] := rfl
@[simp] theorem dm_81_15 : Dm 81 15 = [0, 0, 3, 7, 15, 15, 63, 127, 15, 15, 783, 1807, 4095, 8191, 16383] := rfl
@[simp] theorem dm_81_18 : Dm 81 18 = [0, 0, 0, 0, 0, 0, 48, 112, 0, 0, 768, 1792, 4083, 8179, 16383, 32767] := rfl
@[simp] theorem dm_81_21 : Dm 81 21 = [0, 0, 0, 0, 0, 0, 48, 112, 0, 0, 768, 1792, 4083, 8179, 16383, 32767] := rfl
@[simp] theorem dm_86_3 : Dm 86 3 = [0, 1, 0, 7, 15, 31, 31, 31, 223, 511, 1023, 31, 31, 31, 12319, 28703, 63519, 129055, 262143, 524287] := rfl
@[simp] theorem dm_86_5 : Dm 86 5 = [0, 0, 0, 6, 15, 31, 0, 0, 0, 384, 960, 1984, 4095, 8191] := rfl
@[simp] theorem dm_86_6 : Dm 86 6 = [0, 0, 0, 6, 0, 0, 0, 96, 0, 0, 0, 1536, 3840, 7936, 0, 0, 0, 98304, 245760, 507904, 1048335, 2096911, 4194303, 8388607] := rfl
@[simp] theorem dm_88_1 : Dm 88 1 = [0, 1, 3, 0, 8, 24, 56, 127, 255, 511] := rfl
@[simp] theorem dm_88_2 : Dm 88 2 = [0, 1, 3, 0, 8, 24, 56, 127, 255, 511] := rfl
@[simp] theorem dm_88_3 : Dm 88 3 = [0, 1, 3, 0, 8, 24, 56, 127, 255, 511] := rfl
@[simp] theorem dm_92_1 : Dm 92 1 = [0, 0, 3, 7, 0, 0, 48, 112, 255] := rfl
theorem follows_mixed : Try.prog.follows .mixedOrders = true := by kernel_rfl
noncomputable def drawCheck : Bool := Try.prog.funcs.toList.zipIdx.all fun p => match p.1.body with | some b => (drawsOf b).all fun q => drawStatic q.2 (Dm p.2 q.1) | none => true
theorem drawCheck_ok : drawCheck = true := by kernel_rfl
theorem dm_ok : DOk Try.prog Dm := by
  intro f fn body hf hb p hp
  have h := List.all_eq_true.1 drawCheck_ok (fn, f) (by rw [List.mem_zipIdx_iff_getElem?]; simpa using hf)
  simp only [hb] at h
  exact drawStatic_ok (List.all_eq_true.1 h p hp)
end Go.Proofs.Ytfkneafghcndfaa
