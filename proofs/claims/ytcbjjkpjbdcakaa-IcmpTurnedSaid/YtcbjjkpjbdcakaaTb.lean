/- Facts on the seat's types, by the kernel; which operations stand ahead of which in the drawn regions. -/
import Derived.Test.YtcbjjkpjbdcakaaQa
import Derived.Test.YtcbjjkpjbdcakaaProg
namespace Go.Proofs.Ytcbjjkpjbdcakaa
open Go.Pm
set_option maxRecDepth 1000000
@[simp] theorem tb_sz0 : szOf Try.prog 0 = some 1 := by kernel_rfl
@[simp] theorem tb_ag0 : isAggT Try.prog 0 = some false := by kernel_rfl
@[simp] theorem tb_sl0 : isSl Try.prog 0 = none := by kernel_rfl
@[simp] theorem tb_ar0 : isArr Try.prog 0 = none := by kernel_rfl
@[simp] theorem tb_st0 : isStr Try.prog 0 = false := by kernel_rfl
@[simp] theorem tb_in0 : isInt Try.prog 0 = none := by kernel_rfl
@[simp] theorem tb_u80 : isU8 Try.prog 0 = false := by kernel_rfl
@[simp] theorem tb_bo0 : isBool Try.prog 0 = false := by kernel_rfl
@[simp] theorem tb_nk0 : nkT Try.prog 0 = none := by kernel_rfl
@[simp] theorem tb_by0 : (Try.prog.info? 0).map (·.bytes) = some 0 := by kernel_rfl
@[simp] theorem tb_un0 : (Try.prog.underlying 0).isSome = true := by kernel_rfl
@[simp] theorem tb_so0 : sizesOk Try.prog 0 = false := by kernel_rfl
@[simp] theorem tb_fk0 : flatK Try.prog 40 0 = none := by kernel_rfl
@[simp] theorem tb_eg0 : Try.prog.eqGuardType Try.prog.depth 0 = false := by kernel_rfl
@[simp] theorem tb_sz1 : szOf Try.prog 1 = some 1 := by kernel_rfl
@[simp] theorem tb_ag1 : isAggT Try.prog 1 = some false := by kernel_rfl
@[simp] theorem tb_sl1 : isSl Try.prog 1 = none := by kernel_rfl
@[simp] theorem tb_ar1 : isArr Try.prog 1 = none := by kernel_rfl
@[simp] theorem tb_st1 : isStr Try.prog 1 = false := by kernel_rfl
@[simp] theorem tb_in1 : isInt Try.prog 1 = none := by kernel_rfl
@[simp] theorem tb_u81 : isU8 Try.prog 1 = false := by kernel_rfl
@[simp] theorem tb_bo1 : isBool Try.prog 1 = false := by kernel_rfl
@[simp] theorem tb_nk1 : nkT Try.prog 1 = some NK.func := by kernel_rfl
@[simp] theorem tb_by1 : (Try.prog.info? 1).map (·.bytes) = some 8 := by kernel_rfl
@[simp] theorem tb_un1 : (Try.prog.underlying 1).isSome = true := by kernel_rfl
@[simp] theorem tb_so1 : sizesOk Try.prog 1 = false := by kernel_rfl
@[simp] theorem tb_ze1 : zeroOf Try.prog 1 = some [AV.v Value.nilFunc] := by kernel_rfl
@[simp] theorem tb_fk1 : flatK Try.prog 40 1 = none := by kernel_rfl
@[simp] theorem tb_eg1 : Try.prog.eqGuardType Try.prog.depth 1 = false := by kernel_rfl
@[simp] theorem tb_sz2 : szOf Try.prog 2 = some 1 := by kernel_rfl
@[simp] theorem tb_ag2 : isAggT Try.prog 2 = some false := by kernel_rfl
@[simp] theorem tb_sl2 : isSl Try.prog 2 = none := by kernel_rfl
@[simp] theorem tb_ar2 : isArr Try.prog 2 = none := by kernel_rfl
@[simp] theorem tb_st2 : isStr Try.prog 2 = false := by kernel_rfl
@[simp] theorem tb_in2 : isInt Try.prog 2 = some IntKind.i64 := by kernel_rfl
@[simp] theorem tb_u82 : isU8 Try.prog 2 = false := by kernel_rfl
@[simp] theorem tb_bo2 : isBool Try.prog 2 = false := by kernel_rfl
@[simp] theorem tb_nk2 : nkT Try.prog 2 = none := by kernel_rfl
@[simp] theorem tb_by2 : (Try.prog.info? 2).map (·.bytes) = some 8 := by kernel_rfl
@[simp] theorem tb_un2 : (Try.prog.underlying 2).isSome = true := by kernel_rfl
@[simp] theorem tb_so2 : sizesOk Try.prog 2 = false := by kernel_rfl
@[simp] theorem tb_ze2 : zeroOf Try.prog 2 = some [AV.v (Value.int IntKind.i64 (Int.ofNat 0))] := by kernel_rfl
@[simp] theorem tb_fk2 : flatK Try.prog 40 2 = some [LK.int] := by kernel_rfl
@[simp] theorem tb_eg2 : Try.prog.eqGuardType Try.prog.depth 2 = false := by kernel_rfl
@[simp] theorem tb_sz3 : szOf Try.prog 3 = some 1 := by kernel_rfl
@[simp] theorem tb_ag3 : isAggT Try.prog 3 = some false := by kernel_rfl
@[simp] theorem tb_sl3 : isSl Try.prog 3 = none := by kernel_rfl
@[simp] theorem tb_ar3 : isArr Try.prog 3 = none := by kernel_rfl
@[simp] theorem tb_st3 : isStr Try.prog 3 = false := by kernel_rfl
@[simp] theorem tb_in3 : isInt Try.prog 3 = some IntKind.i64 := by kernel_rfl
@[simp] theorem tb_u83 : isU8 Try.prog 3 = false := by kernel_rfl
@[simp] theorem tb_bo3 : isBool Try.prog 3 = false := by kernel_rfl
@[simp] theorem tb_nk3 : nkT Try.prog 3 = none := by kernel_rfl
@[simp] theorem tb_by3 : (Try.prog.info? 3).map (·.bytes) = some 8 := by kernel_rfl
@[simp] theorem tb_un3 : (Try.prog.underlying 3).isSome = true := by kernel_rfl
@[simp] theorem tb_so3 : sizesOk Try.prog 3 = false := by kernel_rfl
@[simp] theorem tb_ze3 : zeroOf Try.prog 3 = some [AV.v (Value.int IntKind.i64 (Int.ofNat 0))] := by kernel_rfl
@[simp] theorem tb_fk3 : flatK Try.prog 40 3 = some [LK.int] := by kernel_rfl
@[simp] theorem tb_eg3 : Try.prog.eqGuardType Try.prog.depth 3 = false := by kernel_rfl
@[simp] theorem tb_sz4 : szOf Try.prog 4 = some 1 := by kernel_rfl
@[simp] theorem tb_ag4 : isAggT Try.prog 4 = some false := by kernel_rfl
@[simp] theorem tb_sl4 : isSl Try.prog 4 = none := by kernel_rfl
@[simp] theorem tb_ar4 : isArr Try.prog 4 = none := by kernel_rfl
@[simp] theorem tb_st4 : isStr Try.prog 4 = false := by kernel_rfl
@[simp] theorem tb_in4 : isInt Try.prog 4 = none := by kernel_rfl
@[simp] theorem tb_u84 : isU8 Try.prog 4 = false := by kernel_rfl
@[simp] theorem tb_bo4 : isBool Try.prog 4 = true := by kernel_rfl
@[simp] theorem tb_nk4 : nkT Try.prog 4 = none := by kernel_rfl
@[simp] theorem tb_by4 : (Try.prog.info? 4).map (·.bytes) = some 1 := by kernel_rfl
@[simp] theorem tb_un4 : (Try.prog.underlying 4).isSome = true := by kernel_rfl
@[simp] theorem tb_so4 : sizesOk Try.prog 4 = false := by kernel_rfl
@[simp] theorem tb_ze4 : zeroOf Try.prog 4 = some [AV.v (Value.bool false)] := by kernel_rfl
@[simp] theorem tb_fk4 : flatK Try.prog 40 4 = some [LK.bool] := by kernel_rfl
@[simp] theorem tb_eg4 : Try.prog.eqGuardType Try.prog.depth 4 = false := by kernel_rfl
@[simp] theorem tb_sz5 : szOf Try.prog 5 = some 1 := by kernel_rfl
@[simp] theorem tb_ag5 : isAggT Try.prog 5 = some false := by kernel_rfl
@[simp] theorem tb_sl5 : isSl Try.prog 5 = none := by kernel_rfl
@[simp] theorem tb_ar5 : isArr Try.prog 5 = none := by kernel_rfl
@[simp] theorem tb_st5 : isStr Try.prog 5 = false := by kernel_rfl
@[simp] theorem tb_in5 : isInt Try.prog 5 = some IntKind.u8 := by kernel_rfl
@[simp] theorem tb_u85 : isU8 Try.prog 5 = true := by kernel_rfl
@[simp] theorem tb_bo5 : isBool Try.prog 5 = false := by kernel_rfl
@[simp] theorem tb_nk5 : nkT Try.prog 5 = none := by kernel_rfl
@[simp] theorem tb_by5 : (Try.prog.info? 5).map (·.bytes) = some 1 := by kernel_rfl
@[simp] theorem tb_un5 : (Try.prog.underlying 5).isSome = true := by kernel_rfl
@[simp] theorem tb_so5 : sizesOk Try.prog 5 = false := by kernel_rfl
@[simp] theorem tb_ze5 : zeroOf Try.prog 5 = some [AV.v (Value.int IntKind.u8 (Int.ofNat 0))] := by kernel_rfl
@[simp] theorem tb_fk5 : flatK Try.prog 40 5 = some [LK.int] := by kernel_rfl
@[simp] theorem tb_eg5 : Try.prog.eqGuardType Try.prog.depth 5 = false := by kernel_rfl
@[simp] theorem tb_sz6 : szOf Try.prog 6 = some 1 := by kernel_rfl
@[simp] theorem tb_ag6 : isAggT Try.prog 6 = some false := by kernel_rfl
@[simp] theorem tb_sl6 : isSl Try.prog 6 = none := by kernel_rfl
@[simp] theorem tb_ar6 : isArr Try.prog 6 = none := by kernel_rfl
@[simp] theorem tb_st6 : isStr Try.prog 6 = false := by kernel_rfl
@[simp] theorem tb_in6 : isInt Try.prog 6 = some IntKind.u8 := by kernel_rfl
@[simp] theorem tb_u86 : isU8 Try.prog 6 = true := by kernel_rfl
@[simp] theorem tb_bo6 : isBool Try.prog 6 = false := by kernel_rfl
@[simp] theorem tb_nk6 : nkT Try.prog 6 = none := by kernel_rfl
@[simp] theorem tb_by6 : (Try.prog.info? 6).map (·.bytes) = some 1 := by kernel_rfl
@[simp] theorem tb_un6 : (Try.prog.underlying 6).isSome = true := by kernel_rfl
@[simp] theorem tb_so6 : sizesOk Try.prog 6 = false := by kernel_rfl
@[simp] theorem tb_ze6 : zeroOf Try.prog 6 = some [AV.v (Value.int IntKind.u8 (Int.ofNat 0))] := by kernel_rfl
@[simp] theorem tb_fk6 : flatK Try.prog 40 6 = some [LK.int] := by kernel_rfl
@[simp] theorem tb_eg6 : Try.prog.eqGuardType Try.prog.depth 6 = false := by kernel_rfl
@[simp] theorem tb_sz7 : szOf Try.prog 7 = some 4 := by kernel_rfl
@[simp] theorem tb_ag7 : isAggT Try.prog 7 = some true := by kernel_rfl
@[simp] theorem tb_sl7 : isSl Try.prog 7 = none := by kernel_rfl
@[simp] theorem tb_ar7 : isArr Try.prog 7 = none := by kernel_rfl
@[simp] theorem tb_st7 : isStr Try.prog 7 = false := by kernel_rfl
@[simp] theorem tb_in7 : isInt Try.prog 7 = none := by kernel_rfl
@[simp] theorem tb_u87 : isU8 Try.prog 7 = false := by kernel_rfl
@[simp] theorem tb_bo7 : isBool Try.prog 7 = false := by kernel_rfl
@[simp] theorem tb_nk7 : nkT Try.prog 7 = none := by kernel_rfl
@[simp] theorem tb_by7 : (Try.prog.info? 7).map (·.bytes) = some 24 := by kernel_rfl
@[simp] theorem tb_un7 : (Try.prog.underlying 7).isSome = true := by kernel_rfl
@[simp] theorem tb_so7 : sizesOk Try.prog 7 = true := by kernel_rfl
@[simp] theorem tb_ze7 : zeroOf Try.prog 7 = some [AV.v (Value.int IntKind.i64 (Int.ofNat 0)), AV.v (Value.int IntKind.i64 (Int.ofNat 0)), AV.v (Value.bool false), AV.v (Value.int IntKind.u8 (Int.ofNat 0))] := by kernel_rfl
@[simp] theorem tb_fk7 : flatK Try.prog 40 7 = some [LK.int, LK.int, LK.bool, LK.int] := by kernel_rfl
@[simp] theorem tb_eg7 : Try.prog.eqGuardType Try.prog.depth 7 = false := by kernel_rfl
@[simp] theorem tb_fd7_0 : fieldOf Try.prog 7 0 = some (0, 2) := by kernel_rfl
@[simp] theorem tb_fd7_1 : fieldOf Try.prog 7 1 = some (1, 3) := by kernel_rfl
@[simp] theorem tb_fd7_2 : fieldOf Try.prog 7 2 = some (2, 4) := by kernel_rfl
@[simp] theorem tb_fd7_3 : fieldOf Try.prog 7 3 = some (3, 6) := by kernel_rfl
@[simp] theorem tb_sz8 : szOf Try.prog 8 = some 4 := by kernel_rfl
@[simp] theorem tb_ag8 : isAggT Try.prog 8 = some true := by kernel_rfl
@[simp] theorem tb_sl8 : isSl Try.prog 8 = none := by kernel_rfl
@[simp] theorem tb_ar8 : isArr Try.prog 8 = none := by kernel_rfl
@[simp] theorem tb_st8 : isStr Try.prog 8 = false := by kernel_rfl
@[simp] theorem tb_in8 : isInt Try.prog 8 = none := by kernel_rfl
@[simp] theorem tb_u88 : isU8 Try.prog 8 = false := by kernel_rfl
@[simp] theorem tb_bo8 : isBool Try.prog 8 = false := by kernel_rfl
@[simp] theorem tb_nk8 : nkT Try.prog 8 = none := by kernel_rfl
@[simp] theorem tb_by8 : (Try.prog.info? 8).map (·.bytes) = some 24 := by kernel_rfl
@[simp] theorem tb_un8 : (Try.prog.underlying 8).isSome = true := by kernel_rfl
@[simp] theorem tb_so8 : sizesOk Try.prog 8 = true := by kernel_rfl
@[simp] theorem tb_ze8 : zeroOf Try.prog 8 = some [AV.v (Value.int IntKind.i64 (Int.ofNat 0)), AV.v (Value.int IntKind.i64 (Int.ofNat 0)), AV.v (Value.bool false), AV.v (Value.int IntKind.u8 (Int.ofNat 0))] := by kernel_rfl
@[simp] theorem tb_fk8 : flatK Try.prog 40 8 = some [LK.int, LK.int, LK.bool, LK.int] := by kernel_rfl
@[simp] theorem tb_eg8 : Try.prog.eqGuardType Try.prog.depth 8 = false := by kernel_rfl
@[simp] theorem tb_fd8_0 : fieldOf Try.prog 8 0 = some (0, 2) := by kernel_rfl
@[simp] theorem tb_fd8_1 : fieldOf Try.prog 8 1 = some (1, 3) := by kernel_rfl
@[simp] theorem tb_fd8_2 : fieldOf Try.prog 8 2 = some (2, 4) := by kernel_rfl
@[simp] theorem tb_fd8_3 : fieldOf Try.prog 8 3 = some (3, 6) := by kernel_rfl
@[simp] theorem tb_sz9 : szOf Try.prog 9 = some 1 := by kernel_rfl
@[simp] theorem tb_ag9 : isAggT Try.prog 9 = some false := by kernel_rfl
@[simp] theorem tb_sl9 : isSl Try.prog 9 = none := by kernel_rfl
@[simp] theorem tb_ar9 : isArr Try.prog 9 = none := by kernel_rfl
@[simp] theorem tb_st9 : isStr Try.prog 9 = true := by kernel_rfl
@[simp] theorem tb_in9 : isInt Try.prog 9 = none := by kernel_rfl
@[simp] theorem tb_u89 : isU8 Try.prog 9 = false := by kernel_rfl
@[simp] theorem tb_bo9 : isBool Try.prog 9 = false := by kernel_rfl
@[simp] theorem tb_nk9 : nkT Try.prog 9 = none := by kernel_rfl
@[simp] theorem tb_by9 : (Try.prog.info? 9).map (·.bytes) = some 16 := by kernel_rfl
@[simp] theorem tb_un9 : (Try.prog.underlying 9).isSome = true := by kernel_rfl
@[simp] theorem tb_so9 : sizesOk Try.prog 9 = false := by kernel_rfl
@[simp] theorem tb_ze9 : zeroOf Try.prog 9 = some [AV.v (Value.string { data := #[] })] := by kernel_rfl
@[simp] theorem tb_fk9 : flatK Try.prog 40 9 = some [LK.str] := by kernel_rfl
@[simp] theorem tb_eg9 : Try.prog.eqGuardType Try.prog.depth 9 = false := by kernel_rfl
@[simp] theorem tb_sz10 : szOf Try.prog 10 = some 1 := by kernel_rfl
@[simp] theorem tb_ag10 : isAggT Try.prog 10 = some false := by kernel_rfl
@[simp] theorem tb_sl10 : isSl Try.prog 10 = none := by kernel_rfl
@[simp] theorem tb_ar10 : isArr Try.prog 10 = none := by kernel_rfl
@[simp] theorem tb_st10 : isStr Try.prog 10 = true := by kernel_rfl
@[simp] theorem tb_in10 : isInt Try.prog 10 = none := by kernel_rfl
@[simp] theorem tb_u810 : isU8 Try.prog 10 = false := by kernel_rfl
@[simp] theorem tb_bo10 : isBool Try.prog 10 = false := by kernel_rfl
@[simp] theorem tb_nk10 : nkT Try.prog 10 = none := by kernel_rfl
@[simp] theorem tb_by10 : (Try.prog.info? 10).map (·.bytes) = some 16 := by kernel_rfl
@[simp] theorem tb_un10 : (Try.prog.underlying 10).isSome = true := by kernel_rfl
@[simp] theorem tb_so10 : sizesOk Try.prog 10 = false := by kernel_rfl
@[simp] theorem tb_ze10 : zeroOf Try.prog 10 = some [AV.v (Value.string { data := #[] })] := by kernel_rfl
@[simp] theorem tb_fk10 : flatK Try.prog 40 10 = some [LK.str] := by kernel_rfl
@[simp] theorem tb_eg10 : Try.prog.eqGuardType Try.prog.depth 10 = false := by kernel_rfl
@[simp] theorem tb_sz11 : szOf Try.prog 11 = some 1 := by kernel_rfl
@[simp] theorem tb_ag11 : isAggT Try.prog 11 = some false := by kernel_rfl
@[simp] theorem tb_sl11 : isSl Try.prog 11 = none := by kernel_rfl
@[simp] theorem tb_ar11 : isArr Try.prog 11 = none := by kernel_rfl
@[simp] theorem tb_st11 : isStr Try.prog 11 = true := by kernel_rfl
@[simp] theorem tb_in11 : isInt Try.prog 11 = none := by kernel_rfl
@[simp] theorem tb_u811 : isU8 Try.prog 11 = false := by kernel_rfl
@[simp] theorem tb_bo11 : isBool Try.prog 11 = false := by kernel_rfl
@[simp] theorem tb_nk11 : nkT Try.prog 11 = none := by kernel_rfl
@[simp] theorem tb_by11 : (Try.prog.info? 11).map (·.bytes) = some 16 := by kernel_rfl
@[simp] theorem tb_un11 : (Try.prog.underlying 11).isSome = true := by kernel_rfl
@[simp] theorem tb_so11 : sizesOk Try.prog 11 = false := by kernel_rfl
@[simp] theorem tb_ze11 : zeroOf Try.prog 11 = some [AV.v (Value.string { data := #[] })] := by kernel_rfl
@[simp] theorem tb_fk11 : flatK Try.prog 40 11 = some [LK.str] := by kernel_rfl
@[simp] theorem tb_eg11 : Try.prog.eqGuardType Try.prog.depth 11 = false := by kernel_rfl
@[simp] theorem tb_sz12 : szOf Try.prog 12 = some 1 := by kernel_rfl
@[simp] theorem tb_ag12 : isAggT Try.prog 12 = some false := by kernel_rfl
@[simp] theorem tb_sl12 : isSl Try.prog 12 = none := by kernel_rfl
@[simp] theorem tb_ar12 : isArr Try.prog 12 = none := by kernel_rfl
@[simp] theorem tb_st12 : isStr Try.prog 12 = false := by kernel_rfl
@[simp] theorem tb_in12 : isInt Try.prog 12 = some IntKind.u64 := by kernel_rfl
@[simp] theorem tb_u812 : isU8 Try.prog 12 = false := by kernel_rfl
@[simp] theorem tb_bo12 : isBool Try.prog 12 = false := by kernel_rfl
@[simp] theorem tb_nk12 : nkT Try.prog 12 = none := by kernel_rfl
@[simp] theorem tb_by12 : (Try.prog.info? 12).map (·.bytes) = some 8 := by kernel_rfl
@[simp] theorem tb_un12 : (Try.prog.underlying 12).isSome = true := by kernel_rfl
@[simp] theorem tb_so12 : sizesOk Try.prog 12 = false := by kernel_rfl
@[simp] theorem tb_ze12 : zeroOf Try.prog 12 = some [AV.v (Value.int IntKind.u64 (Int.ofNat 0))] := by kernel_rfl
@[simp] theorem tb_fk12 : flatK Try.prog 40 12 = some [LK.int] := by kernel_rfl
@[simp] theorem tb_eg12 : Try.prog.eqGuardType Try.prog.depth 12 = false := by kernel_rfl
@[simp] theorem tb_sz13 : szOf Try.prog 13 = some 2 := by kernel_rfl
@[simp] theorem tb_ag13 : isAggT Try.prog 13 = some true := by kernel_rfl
@[simp] theorem tb_sl13 : isSl Try.prog 13 = none := by kernel_rfl
@[simp] theorem tb_ar13 : isArr Try.prog 13 = none := by kernel_rfl
@[simp] theorem tb_st13 : isStr Try.prog 13 = false := by kernel_rfl
@[simp] theorem tb_in13 : isInt Try.prog 13 = none := by kernel_rfl
@[simp] theorem tb_u813 : isU8 Try.prog 13 = false := by kernel_rfl
@[simp] theorem tb_bo13 : isBool Try.prog 13 = false := by kernel_rfl
@[simp] theorem tb_nk13 : nkT Try.prog 13 = none := by kernel_rfl
@[simp] theorem tb_by13 : (Try.prog.info? 13).map (·.bytes) = some 24 := by kernel_rfl
@[simp] theorem tb_un13 : (Try.prog.underlying 13).isSome = true := by kernel_rfl
@[simp] theorem tb_so13 : sizesOk Try.prog 13 = true := by kernel_rfl
@[simp] theorem tb_ze13 : zeroOf Try.prog 13 = some [AV.v (Value.string { data := #[] }), AV.v (Value.int IntKind.u64 (Int.ofNat 0))] := by kernel_rfl
@[simp] theorem tb_fk13 : flatK Try.prog 40 13 = none := by kernel_rfl
@[simp] theorem tb_eg13 : Try.prog.eqGuardType Try.prog.depth 13 = false := by kernel_rfl
@[simp] theorem tb_fd13_0 : fieldOf Try.prog 13 0 = some (0, 9) := by kernel_rfl
@[simp] theorem tb_fd13_1 : fieldOf Try.prog 13 1 = some (1, 12) := by kernel_rfl
@[simp] theorem tb_sz14 : szOf Try.prog 14 = some 2 := by kernel_rfl
@[simp] theorem tb_ag14 : isAggT Try.prog 14 = some true := by kernel_rfl
@[simp] theorem tb_sl14 : isSl Try.prog 14 = none := by kernel_rfl
@[simp] theorem tb_ar14 : isArr Try.prog 14 = none := by kernel_rfl
@[simp] theorem tb_st14 : isStr Try.prog 14 = false := by kernel_rfl
@[simp] theorem tb_in14 : isInt Try.prog 14 = none := by kernel_rfl
@[simp] theorem tb_u814 : isU8 Try.prog 14 = false := by kernel_rfl
@[simp] theorem tb_bo14 : isBool Try.prog 14 = false := by kernel_rfl
@[simp] theorem tb_nk14 : nkT Try.prog 14 = none := by kernel_rfl
@[simp] theorem tb_by14 : (Try.prog.info? 14).map (·.bytes) = some 24 := by kernel_rfl
@[simp] theorem tb_un14 : (Try.prog.underlying 14).isSome = true := by kernel_rfl
@[simp] theorem tb_so14 : sizesOk Try.prog 14 = true := by kernel_rfl
@[simp] theorem tb_ze14 : zeroOf Try.prog 14 = some [AV.v (Value.string { data := #[] }), AV.v (Value.int IntKind.u64 (Int.ofNat 0))] := by kernel_rfl
@[simp] theorem tb_fk14 : flatK Try.prog 40 14 = none := by kernel_rfl
@[simp] theorem tb_eg14 : Try.prog.eqGuardType Try.prog.depth 14 = false := by kernel_rfl
@[simp] theorem tb_fd14_0 : fieldOf Try.prog 14 0 = some (0, 9) := by kernel_rfl
@[simp] theorem tb_fd14_1 : fieldOf Try.prog 14 1 = some (1, 12) := by kernel_rfl
@[simp] theorem tb_sz15 : szOf Try.prog 15 = some 1 := by kernel_rfl
@[simp] theorem tb_ag15 : isAggT Try.prog 15 = some false := by kernel_rfl
@[simp] theorem tb_sl15 : isSl Try.prog 15 = none := by kernel_rfl
@[simp] theorem tb_ar15 : isArr Try.prog 15 = none := by kernel_rfl
@[simp] theorem tb_st15 : isStr Try.prog 15 = false := by kernel_rfl
@[simp] theorem tb_in15 : isInt Try.prog 15 = none := by kernel_rfl
@[simp] theorem tb_u815 : isU8 Try.prog 15 = false := by kernel_rfl
@[simp] theorem tb_bo15 : isBool Try.prog 15 = false := by kernel_rfl
@[simp] theorem tb_nk15 : nkT Try.prog 15 = some NK.ptr := by kernel_rfl
@[simp] theorem tb_by15 : (Try.prog.info? 15).map (·.bytes) = some 8 := by kernel_rfl
@[simp] theorem tb_un15 : (Try.prog.underlying 15).isSome = true := by kernel_rfl
@[simp] theorem tb_so15 : sizesOk Try.prog 15 = false := by kernel_rfl
@[simp] theorem tb_ze15 : zeroOf Try.prog 15 = some [AV.v (Value.pointer none)] := by kernel_rfl
@[simp] theorem tb_fk15 : flatK Try.prog 40 15 = none := by kernel_rfl
@[simp] theorem tb_eg15 : Try.prog.eqGuardType Try.prog.depth 15 = false := by kernel_rfl
@[simp] theorem tb_sz16 : szOf Try.prog 16 = some 1 := by kernel_rfl
@[simp] theorem tb_ag16 : isAggT Try.prog 16 = some false := by kernel_rfl
@[simp] theorem tb_sl16 : isSl Try.prog 16 = none := by kernel_rfl
@[simp] theorem tb_ar16 : isArr Try.prog 16 = none := by kernel_rfl
@[simp] theorem tb_st16 : isStr Try.prog 16 = false := by kernel_rfl
@[simp] theorem tb_in16 : isInt Try.prog 16 = none := by kernel_rfl
@[simp] theorem tb_u816 : isU8 Try.prog 16 = false := by kernel_rfl
@[simp] theorem tb_bo16 : isBool Try.prog 16 = false := by kernel_rfl
@[simp] theorem tb_nk16 : nkT Try.prog 16 = some NK.ptr := by kernel_rfl
@[simp] theorem tb_by16 : (Try.prog.info? 16).map (·.bytes) = some 8 := by kernel_rfl
@[simp] theorem tb_un16 : (Try.prog.underlying 16).isSome = true := by kernel_rfl
@[simp] theorem tb_so16 : sizesOk Try.prog 16 = false := by kernel_rfl
@[simp] theorem tb_ze16 : zeroOf Try.prog 16 = some [AV.v (Value.pointer none)] := by kernel_rfl
@[simp] theorem tb_fk16 : flatK Try.prog 40 16 = none := by kernel_rfl
@[simp] theorem tb_eg16 : Try.prog.eqGuardType Try.prog.depth 16 = false := by kernel_rfl
@[simp] theorem tb_sz17 : szOf Try.prog 17 = some 1 := by kernel_rfl
@[simp] theorem tb_ag17 : isAggT Try.prog 17 = some false := by kernel_rfl
@[simp] theorem tb_sl17 : isSl Try.prog 17 = none := by kernel_rfl
@[simp] theorem tb_ar17 : isArr Try.prog 17 = none := by kernel_rfl
@[simp] theorem tb_st17 : isStr Try.prog 17 = false := by kernel_rfl
@[simp] theorem tb_in17 : isInt Try.prog 17 = none := by kernel_rfl
@[simp] theorem tb_u817 : isU8 Try.prog 17 = false := by kernel_rfl
@[simp] theorem tb_bo17 : isBool Try.prog 17 = false := by kernel_rfl
@[simp] theorem tb_nk17 : nkT Try.prog 17 = some NK.ptr := by kernel_rfl
@[simp] theorem tb_by17 : (Try.prog.info? 17).map (·.bytes) = some 8 := by kernel_rfl
@[simp] theorem tb_un17 : (Try.prog.underlying 17).isSome = true := by kernel_rfl
@[simp] theorem tb_so17 : sizesOk Try.prog 17 = false := by kernel_rfl
@[simp] theorem tb_ze17 : zeroOf Try.prog 17 = some [AV.v (Value.pointer none)] := by kernel_rfl
@[simp] theorem tb_fk17 : flatK Try.prog 40 17 = none := by kernel_rfl
@[simp] theorem tb_eg17 : Try.prog.eqGuardType Try.prog.depth 17 = false := by kernel_rfl
@[simp] theorem tb_sz18 : szOf Try.prog 18 = some 1 := by kernel_rfl
@[simp] theorem tb_ag18 : isAggT Try.prog 18 = some true := by kernel_rfl
@[simp] theorem tb_sl18 : isSl Try.prog 18 = none := by kernel_rfl
@[simp] theorem tb_ar18 : isArr Try.prog 18 = none := by kernel_rfl
@[simp] theorem tb_st18 : isStr Try.prog 18 = false := by kernel_rfl
@[simp] theorem tb_in18 : isInt Try.prog 18 = none := by kernel_rfl
@[simp] theorem tb_u818 : isU8 Try.prog 18 = false := by kernel_rfl
@[simp] theorem tb_bo18 : isBool Try.prog 18 = false := by kernel_rfl
@[simp] theorem tb_nk18 : nkT Try.prog 18 = none := by kernel_rfl
@[simp] theorem tb_by18 : (Try.prog.info? 18).map (·.bytes) = some 8 := by kernel_rfl
@[simp] theorem tb_un18 : (Try.prog.underlying 18).isSome = true := by kernel_rfl
@[simp] theorem tb_so18 : sizesOk Try.prog 18 = true := by kernel_rfl
@[simp] theorem tb_ze18 : zeroOf Try.prog 18 = some [AV.v (Value.pointer none)] := by kernel_rfl
@[simp] theorem tb_fk18 : flatK Try.prog 40 18 = none := by kernel_rfl
@[simp] theorem tb_eg18 : Try.prog.eqGuardType Try.prog.depth 18 = false := by kernel_rfl
@[simp] theorem tb_fd18_0 : fieldOf Try.prog 18 0 = some (0, 17) := by kernel_rfl
@[simp] theorem tb_sz19 : szOf Try.prog 19 = some 1 := by kernel_rfl
@[simp] theorem tb_ag19 : isAggT Try.prog 19 = some true := by kernel_rfl
@[simp] theorem tb_sl19 : isSl Try.prog 19 = none := by kernel_rfl
@[simp] theorem tb_ar19 : isArr Try.prog 19 = none := by kernel_rfl
@[simp] theorem tb_st19 : isStr Try.prog 19 = false := by kernel_rfl
@[simp] theorem tb_in19 : isInt Try.prog 19 = none := by kernel_rfl
@[simp] theorem tb_u819 : isU8 Try.prog 19 = false := by kernel_rfl
@[simp] theorem tb_bo19 : isBool Try.prog 19 = false := by kernel_rfl
@[simp] theorem tb_nk19 : nkT Try.prog 19 = none := by kernel_rfl
@[simp] theorem tb_by19 : (Try.prog.info? 19).map (·.bytes) = some 8 := by kernel_rfl
@[simp] theorem tb_un19 : (Try.prog.underlying 19).isSome = true := by kernel_rfl
@[simp] theorem tb_so19 : sizesOk Try.prog 19 = true := by kernel_rfl
@[simp] theorem tb_ze19 : zeroOf Try.prog 19 = some [AV.v (Value.pointer none)] := by kernel_rfl
@[simp] theorem tb_fk19 : flatK Try.prog 40 19 = none := by kernel_rfl
@[simp] theorem tb_eg19 : Try.prog.eqGuardType Try.prog.depth 19 = false := by kernel_rfl
@[simp] theorem tb_fd19_0 : fieldOf Try.prog 19 0 = some (0, 17) := by kernel_rfl
@[simp] theorem tb_sz20 : szOf Try.prog 20 = some 1 := by kernel_rfl
@[simp] theorem tb_ag20 : isAggT Try.prog 20 = some false := by kernel_rfl
@[simp] theorem tb_sl20 : isSl Try.prog 20 = none := by kernel_rfl
@[simp] theorem tb_ar20 : isArr Try.prog 20 = none := by kernel_rfl
@[simp] theorem tb_st20 : isStr Try.prog 20 = false := by kernel_rfl
@[simp] theorem tb_in20 : isInt Try.prog 20 = none := by kernel_rfl
@[simp] theorem tb_u820 : isU8 Try.prog 20 = false := by kernel_rfl
@[simp] theorem tb_bo20 : isBool Try.prog 20 = false := by kernel_rfl
@[simp] theorem tb_nk20 : nkT Try.prog 20 = none := by kernel_rfl
@[simp] theorem tb_by20 : (Try.prog.info? 20).map (·.bytes) = some 16 := by kernel_rfl
@[simp] theorem tb_un20 : (Try.prog.underlying 20).isSome = true := by kernel_rfl
@[simp] theorem tb_so20 : sizesOk Try.prog 20 = false := by kernel_rfl
@[simp] theorem tb_ze20 : zeroOf Try.prog 20 = some [AV.v Value.nilIface] := by kernel_rfl
@[simp] theorem tb_fk20 : flatK Try.prog 40 20 = none := by kernel_rfl
@[simp] theorem tb_eg20 : Try.prog.eqGuardType Try.prog.depth 20 = false := by kernel_rfl
@[simp] theorem tb_sz21 : szOf Try.prog 21 = some 1 := by kernel_rfl
@[simp] theorem tb_ag21 : isAggT Try.prog 21 = some false := by kernel_rfl
@[simp] theorem tb_sl21 : isSl Try.prog 21 = none := by kernel_rfl
@[simp] theorem tb_ar21 : isArr Try.prog 21 = none := by kernel_rfl
@[simp] theorem tb_st21 : isStr Try.prog 21 = false := by kernel_rfl
@[simp] theorem tb_in21 : isInt Try.prog 21 = some IntKind.i32 := by kernel_rfl
@[simp] theorem tb_u821 : isU8 Try.prog 21 = false := by kernel_rfl
@[simp] theorem tb_bo21 : isBool Try.prog 21 = false := by kernel_rfl
@[simp] theorem tb_nk21 : nkT Try.prog 21 = none := by kernel_rfl
@[simp] theorem tb_by21 : (Try.prog.info? 21).map (·.bytes) = some 4 := by kernel_rfl
@[simp] theorem tb_un21 : (Try.prog.underlying 21).isSome = true := by kernel_rfl
@[simp] theorem tb_so21 : sizesOk Try.prog 21 = false := by kernel_rfl
@[simp] theorem tb_ze21 : zeroOf Try.prog 21 = some [AV.v (Value.int IntKind.i32 (Int.ofNat 0))] := by kernel_rfl
@[simp] theorem tb_fk21 : flatK Try.prog 40 21 = some [LK.int] := by kernel_rfl
@[simp] theorem tb_eg21 : Try.prog.eqGuardType Try.prog.depth 21 = false := by kernel_rfl
@[simp] theorem tb_sz22 : szOf Try.prog 22 = some 16 := by kernel_rfl
@[simp] theorem tb_ag22 : isAggT Try.prog 22 = some true := by kernel_rfl
@[simp] theorem tb_sl22 : isSl Try.prog 22 = none := by kernel_rfl
@[simp] theorem tb_ar22 : isArr Try.prog 22 = some (16, 5) := by kernel_rfl
@[simp] theorem tb_st22 : isStr Try.prog 22 = false := by kernel_rfl
@[simp] theorem tb_in22 : isInt Try.prog 22 = none := by kernel_rfl
@[simp] theorem tb_u822 : isU8 Try.prog 22 = false := by kernel_rfl
@[simp] theorem tb_bo22 : isBool Try.prog 22 = false := by kernel_rfl
@[simp] theorem tb_nk22 : nkT Try.prog 22 = none := by kernel_rfl
@[simp] theorem tb_by22 : (Try.prog.info? 22).map (·.bytes) = some 16 := by kernel_rfl
@[simp] theorem tb_un22 : (Try.prog.underlying 22).isSome = true := by kernel_rfl
@[simp] theorem tb_so22 : sizesOk Try.prog 22 = true := by kernel_rfl
@[simp] theorem tb_ze22 : zeroOf Try.prog 22 = some [AV.v (Value.int IntKind.u8 (Int.ofNat 0)), AV.v (Value.int IntKind.u8 (Int.ofNat 0)), AV.v (Value.int IntKind.u8 (Int.ofNat 0)), AV.v (Value.int IntKind.u8 (Int.ofNat 0)), AV.v (Value.int IntKind.u8 (Int.ofNat 0)), AV.v (Value.int IntKind.u8 (Int.ofNat 0)), AV.v (Value.int IntKind.u8 (Int.ofNat 0)), AV.v (Value.int IntKind.u8 (Int.ofNat 0)), AV.v (Value.int IntKind.u8 (Int.ofNat 0)), AV.v (Value.int IntKind.u8 (Int.ofNat 0)), AV.v (Value.int IntKind.u8 (Int.ofNat 0)), AV.v (Value.int IntKind.u8 (Int.ofNat 0)), AV.v (Value.int IntKind.u8 (Int.ofNat 0)), AV.v (Value.int IntKind.u8 (Int.ofNat 0)), AV.v (Value.int IntKind.u8 (Int.ofNat 0)), AV.v (Value.int IntKind.u8 (Int.ofNat 0))] := by kernel_rfl
@[simp] theorem tb_fk22 : flatK Try.prog 40 22 = some [LK.int, LK.int, LK.int, LK.int, LK.int, LK.int, LK.int, LK.int, LK.int, LK.int, LK.int, LK.int, LK.int, LK.int, LK.int, LK.int] := by kernel_rfl
@[simp] theorem tb_eg22 : Try.prog.eqGuardType Try.prog.depth 22 = false := by kernel_rfl
@[simp] theorem tb_sz23 : szOf Try.prog 23 = some 1 := by kernel_rfl
@[simp] theorem tb_ag23 : isAggT Try.prog 23 = some false := by kernel_rfl
@[simp] theorem tb_sl23 : isSl Try.prog 23 = some 5 := by kernel_rfl
@[simp] theorem tb_ar23 : isArr Try.prog 23 = none := by kernel_rfl
@[simp] theorem tb_st23 : isStr Try.prog 23 = false := by kernel_rfl
@[simp] theorem tb_in23 : isInt Try.prog 23 = none := by kernel_rfl
@[simp] theorem tb_u823 : isU8 Try.prog 23 = false := by kernel_rfl
@[simp] theorem tb_bo23 : isBool Try.prog 23 = false := by kernel_rfl
@[simp] theorem tb_nk23 : nkT Try.prog 23 = some NK.slice := by kernel_rfl
@[simp] theorem tb_by23 : (Try.prog.info? 23).map (·.bytes) = some 24 := by kernel_rfl
@[simp] theorem tb_un23 : (Try.prog.underlying 23).isSome = true := by kernel_rfl
@[simp] theorem tb_so23 : sizesOk Try.prog 23 = false := by kernel_rfl
@[simp] theorem tb_ze23 : zeroOf Try.prog 23 = some [AV.v (Value.slice none 0 0)] := by kernel_rfl
@[simp] theorem tb_fk23 : flatK Try.prog 40 23 = none := by kernel_rfl
@[simp] theorem tb_eg23 : Try.prog.eqGuardType Try.prog.depth 23 = false := by kernel_rfl
@[simp] theorem tb_sz24 : szOf Try.prog 24 = some 1 := by kernel_rfl
@[simp] theorem tb_ag24 : isAggT Try.prog 24 = some false := by kernel_rfl
@[simp] theorem tb_sl24 : isSl Try.prog 24 = none := by kernel_rfl
@[simp] theorem tb_ar24 : isArr Try.prog 24 = none := by kernel_rfl
@[simp] theorem tb_st24 : isStr Try.prog 24 = false := by kernel_rfl
@[simp] theorem tb_in24 : isInt Try.prog 24 = none := by kernel_rfl
@[simp] theorem tb_u824 : isU8 Try.prog 24 = false := by kernel_rfl
@[simp] theorem tb_bo24 : isBool Try.prog 24 = false := by kernel_rfl
@[simp] theorem tb_nk24 : nkT Try.prog 24 = some NK.func := by kernel_rfl
@[simp] theorem tb_by24 : (Try.prog.info? 24).map (·.bytes) = some 8 := by kernel_rfl
@[simp] theorem tb_un24 : (Try.prog.underlying 24).isSome = true := by kernel_rfl
@[simp] theorem tb_so24 : sizesOk Try.prog 24 = false := by kernel_rfl
@[simp] theorem tb_ze24 : zeroOf Try.prog 24 = some [AV.v Value.nilFunc] := by kernel_rfl
@[simp] theorem tb_fk24 : flatK Try.prog 40 24 = none := by kernel_rfl
@[simp] theorem tb_eg24 : Try.prog.eqGuardType Try.prog.depth 24 = false := by kernel_rfl
@[simp] theorem tb_sz25 : szOf Try.prog 25 = some 1 := by kernel_rfl
@[simp] theorem tb_ag25 : isAggT Try.prog 25 = some false := by kernel_rfl
@[simp] theorem tb_sl25 : isSl Try.prog 25 = none := by kernel_rfl
@[simp] theorem tb_ar25 : isArr Try.prog 25 = none := by kernel_rfl
@[simp] theorem tb_st25 : isStr Try.prog 25 = false := by kernel_rfl
@[simp] theorem tb_in25 : isInt Try.prog 25 = some IntKind.u16 := by kernel_rfl
@[simp] theorem tb_u825 : isU8 Try.prog 25 = false := by kernel_rfl
@[simp] theorem tb_bo25 : isBool Try.prog 25 = false := by kernel_rfl
@[simp] theorem tb_nk25 : nkT Try.prog 25 = none := by kernel_rfl
@[simp] theorem tb_by25 : (Try.prog.info? 25).map (·.bytes) = some 2 := by kernel_rfl
@[simp] theorem tb_un25 : (Try.prog.underlying 25).isSome = true := by kernel_rfl
@[simp] theorem tb_so25 : sizesOk Try.prog 25 = false := by kernel_rfl
@[simp] theorem tb_ze25 : zeroOf Try.prog 25 = some [AV.v (Value.int IntKind.u16 (Int.ofNat 0))] := by kernel_rfl
@[simp] theorem tb_fk25 : flatK Try.prog 40 25 = some [LK.int] := by kernel_rfl
@[simp] theorem tb_eg25 : Try.prog.eqGuardType Try.prog.depth 25 = false := by kernel_rfl
@[simp] theorem tb_sz26 : szOf Try.prog 26 = some 1 := by kernel_rfl
@[simp] theorem tb_ag26 : isAggT Try.prog 26 = some false := by kernel_rfl
@[simp] theorem tb_sl26 : isSl Try.prog 26 = none := by kernel_rfl
@[simp] theorem tb_ar26 : isArr Try.prog 26 = none := by kernel_rfl
@[simp] theorem tb_st26 : isStr Try.prog 26 = false := by kernel_rfl
@[simp] theorem tb_in26 : isInt Try.prog 26 = some IntKind.u32 := by kernel_rfl
@[simp] theorem tb_u826 : isU8 Try.prog 26 = false := by kernel_rfl
@[simp] theorem tb_bo26 : isBool Try.prog 26 = false := by kernel_rfl
@[simp] theorem tb_nk26 : nkT Try.prog 26 = none := by kernel_rfl
@[simp] theorem tb_by26 : (Try.prog.info? 26).map (·.bytes) = some 4 := by kernel_rfl
@[simp] theorem tb_un26 : (Try.prog.underlying 26).isSome = true := by kernel_rfl
@[simp] theorem tb_so26 : sizesOk Try.prog 26 = false := by kernel_rfl
@[simp] theorem tb_ze26 : zeroOf Try.prog 26 = some [AV.v (Value.int IntKind.u32 (Int.ofNat 0))] := by kernel_rfl
@[simp] theorem tb_fk26 : flatK Try.prog 40 26 = some [LK.int] := by kernel_rfl
@[simp] theorem tb_eg26 : Try.prog.eqGuardType Try.prog.depth 26 = false := by kernel_rfl
@[simp] theorem tb_sz27 : szOf Try.prog 27 = some 9 := by kernel_rfl
@[simp] theorem tb_ag27 : isAggT Try.prog 27 = some true := by kernel_rfl
@[simp] theorem tb_sl27 : isSl Try.prog 27 = none := by kernel_rfl
@[simp] theorem tb_ar27 : isArr Try.prog 27 = none := by kernel_rfl
@[simp] theorem tb_st27 : isStr Try.prog 27 = false := by kernel_rfl
@[simp] theorem tb_in27 : isInt Try.prog 27 = none := by kernel_rfl
@[simp] theorem tb_u827 : isU8 Try.prog 27 = false := by kernel_rfl
@[simp] theorem tb_bo27 : isBool Try.prog 27 = false := by kernel_rfl
@[simp] theorem tb_nk27 : nkT Try.prog 27 = none := by kernel_rfl
@[simp] theorem tb_by27 : (Try.prog.info? 27).map (·.bytes) = some 48 := by kernel_rfl
@[simp] theorem tb_un27 : (Try.prog.underlying 27).isSome = true := by kernel_rfl
@[simp] theorem tb_so27 : sizesOk Try.prog 27 = true := by kernel_rfl
@[simp] theorem tb_ze27 : zeroOf Try.prog 27 = some [AV.v (Value.int IntKind.u16 (Int.ofNat 0)), AV.v (Value.int IntKind.u16 (Int.ofNat 0)), AV.v (Value.int IntKind.u32 (Int.ofNat 0)), AV.v (Value.int IntKind.u32 (Int.ofNat 0)), AV.v (Value.int IntKind.u8 (Int.ofNat 0)), AV.v (Value.int IntKind.u8 (Int.ofNat 0)), AV.v (Value.int IntKind.u16 (Int.ofNat 0)), AV.v (Value.int IntKind.u16 (Int.ofNat 0)), AV.v (Value.slice none 0 0)] := by kernel_rfl
@[simp] theorem tb_fk27 : flatK Try.prog 40 27 = none := by kernel_rfl
@[simp] theorem tb_eg27 : Try.prog.eqGuardType Try.prog.depth 27 = false := by kernel_rfl
@[simp] theorem tb_fd27_0 : fieldOf Try.prog 27 0 = some (0, 25) := by kernel_rfl
@[simp] theorem tb_fd27_1 : fieldOf Try.prog 27 1 = some (1, 25) := by kernel_rfl
@[simp] theorem tb_fd27_2 : fieldOf Try.prog 27 2 = some (2, 26) := by kernel_rfl
@[simp] theorem tb_fd27_3 : fieldOf Try.prog 27 3 = some (3, 26) := by kernel_rfl
@[simp] theorem tb_fd27_4 : fieldOf Try.prog 27 4 = some (4, 5) := by kernel_rfl
@[simp] theorem tb_fd27_5 : fieldOf Try.prog 27 5 = some (5, 5) := by kernel_rfl
@[simp] theorem tb_fd27_6 : fieldOf Try.prog 27 6 = some (6, 25) := by kernel_rfl
@[simp] theorem tb_fd27_7 : fieldOf Try.prog 27 7 = some (7, 25) := by kernel_rfl
@[simp] theorem tb_fd27_8 : fieldOf Try.prog 27 8 = some (8, 23) := by kernel_rfl
@[simp] theorem tb_sz28 : szOf Try.prog 28 = some 9 := by kernel_rfl
@[simp] theorem tb_ag28 : isAggT Try.prog 28 = some true := by kernel_rfl
@[simp] theorem tb_sl28 : isSl Try.prog 28 = none := by kernel_rfl
@[simp] theorem tb_ar28 : isArr Try.prog 28 = none := by kernel_rfl
@[simp] theorem tb_st28 : isStr Try.prog 28 = false := by kernel_rfl
@[simp] theorem tb_in28 : isInt Try.prog 28 = none := by kernel_rfl
@[simp] theorem tb_u828 : isU8 Try.prog 28 = false := by kernel_rfl
@[simp] theorem tb_bo28 : isBool Try.prog 28 = false := by kernel_rfl
@[simp] theorem tb_nk28 : nkT Try.prog 28 = none := by kernel_rfl
@[simp] theorem tb_by28 : (Try.prog.info? 28).map (·.bytes) = some 48 := by kernel_rfl
@[simp] theorem tb_un28 : (Try.prog.underlying 28).isSome = true := by kernel_rfl
@[simp] theorem tb_so28 : sizesOk Try.prog 28 = true := by kernel_rfl
@[simp] theorem tb_ze28 : zeroOf Try.prog 28 = some [AV.v (Value.int IntKind.u16 (Int.ofNat 0)), AV.v (Value.int IntKind.u16 (Int.ofNat 0)), AV.v (Value.int IntKind.u32 (Int.ofNat 0)), AV.v (Value.int IntKind.u32 (Int.ofNat 0)), AV.v (Value.int IntKind.u8 (Int.ofNat 0)), AV.v (Value.int IntKind.u8 (Int.ofNat 0)), AV.v (Value.int IntKind.u16 (Int.ofNat 0)), AV.v (Value.int IntKind.u16 (Int.ofNat 0)), AV.v (Value.slice none 0 0)] := by kernel_rfl
@[simp] theorem tb_fk28 : flatK Try.prog 40 28 = none := by kernel_rfl
@[simp] theorem tb_eg28 : Try.prog.eqGuardType Try.prog.depth 28 = false := by kernel_rfl
@[simp] theorem tb_fd28_0 : fieldOf Try.prog 28 0 = some (0, 25) := by kernel_rfl
@[simp] theorem tb_fd28_1 : fieldOf Try.prog 28 1 = some (1, 25) := by kernel_rfl
@[simp] theorem tb_fd28_2 : fieldOf Try.prog 28 2 = some (2, 26) := by kernel_rfl
@[simp] theorem tb_fd28_3 : fieldOf Try.prog 28 3 = some (3, 26) := by kernel_rfl
@[simp] theorem tb_fd28_4 : fieldOf Try.prog 28 4 = some (4, 5) := by kernel_rfl
@[simp] theorem tb_fd28_5 : fieldOf Try.prog 28 5 = some (5, 5) := by kernel_rfl
@[simp] theorem tb_fd28_6 : fieldOf Try.prog 28 6 = some (6, 25) := by kernel_rfl
@[simp] theorem tb_fd28_7 : fieldOf Try.prog 28 7 = some (7, 25) := by kernel_rfl
@[simp] theorem tb_fd28_8 : fieldOf Try.prog 28 8 = some (8, 23) := by kernel_rfl
@[simp] theorem tb_sz29 : szOf Try.prog 29 = some 1 := by kernel_rfl
@[simp] theorem tb_ag29 : isAggT Try.prog 29 = some false := by kernel_rfl
@[simp] theorem tb_sl29 : isSl Try.prog 29 = none := by kernel_rfl
@[simp] theorem tb_ar29 : isArr Try.prog 29 = none := by kernel_rfl
@[simp] theorem tb_st29 : isStr Try.prog 29 = false := by kernel_rfl
@[simp] theorem tb_in29 : isInt Try.prog 29 = some IntKind.i64 := by kernel_rfl
@[simp] theorem tb_u829 : isU8 Try.prog 29 = false := by kernel_rfl
@[simp] theorem tb_bo29 : isBool Try.prog 29 = false := by kernel_rfl
@[simp] theorem tb_nk29 : nkT Try.prog 29 = none := by kernel_rfl
@[simp] theorem tb_by29 : (Try.prog.info? 29).map (·.bytes) = some 8 := by kernel_rfl
@[simp] theorem tb_un29 : (Try.prog.underlying 29).isSome = true := by kernel_rfl
@[simp] theorem tb_so29 : sizesOk Try.prog 29 = false := by kernel_rfl
@[simp] theorem tb_ze29 : zeroOf Try.prog 29 = some [AV.v (Value.int IntKind.i64 (Int.ofNat 0))] := by kernel_rfl
@[simp] theorem tb_fk29 : flatK Try.prog 40 29 = some [LK.int] := by kernel_rfl
@[simp] theorem tb_eg29 : Try.prog.eqGuardType Try.prog.depth 29 = false := by kernel_rfl
@[simp] theorem tb_sz30 : szOf Try.prog 30 = some 1 := by kernel_rfl
@[simp] theorem tb_ag30 : isAggT Try.prog 30 = some false := by kernel_rfl
@[simp] theorem tb_sl30 : isSl Try.prog 30 = none := by kernel_rfl
@[simp] theorem tb_ar30 : isArr Try.prog 30 = none := by kernel_rfl
@[simp] theorem tb_st30 : isStr Try.prog 30 = false := by kernel_rfl
@[simp] theorem tb_in30 : isInt Try.prog 30 = none := by kernel_rfl
@[simp] theorem tb_u830 : isU8 Try.prog 30 = false := by kernel_rfl
@[simp] theorem tb_bo30 : isBool Try.prog 30 = false := by kernel_rfl
@[simp] theorem tb_nk30 : nkT Try.prog 30 = none := by kernel_rfl
@[simp] theorem tb_by30 : (Try.prog.info? 30).map (·.bytes) = some 0 := by kernel_rfl
@[simp] theorem tb_un30 : (Try.prog.underlying 30).isSome = true := by kernel_rfl
@[simp] theorem tb_so30 : sizesOk Try.prog 30 = false := by kernel_rfl
@[simp] theorem tb_fk30 : flatK Try.prog 40 30 = none := by kernel_rfl
@[simp] theorem tb_eg30 : Try.prog.eqGuardType Try.prog.depth 30 = false := by kernel_rfl
@[simp] theorem tb_sz31 : szOf Try.prog 31 = some 1 := by kernel_rfl
@[simp] theorem tb_ag31 : isAggT Try.prog 31 = some false := by kernel_rfl
@[simp] theorem tb_sl31 : isSl Try.prog 31 = none := by kernel_rfl
@[simp] theorem tb_ar31 : isArr Try.prog 31 = none := by kernel_rfl
@[simp] theorem tb_st31 : isStr Try.prog 31 = false := by kernel_rfl
@[simp] theorem tb_in31 : isInt Try.prog 31 = none := by kernel_rfl
@[simp] theorem tb_u831 : isU8 Try.prog 31 = false := by kernel_rfl
@[simp] theorem tb_bo31 : isBool Try.prog 31 = false := by kernel_rfl
@[simp] theorem tb_nk31 : nkT Try.prog 31 = some NK.func := by kernel_rfl
@[simp] theorem tb_by31 : (Try.prog.info? 31).map (·.bytes) = some 8 := by kernel_rfl
@[simp] theorem tb_un31 : (Try.prog.underlying 31).isSome = true := by kernel_rfl
@[simp] theorem tb_so31 : sizesOk Try.prog 31 = false := by kernel_rfl
@[simp] theorem tb_ze31 : zeroOf Try.prog 31 = some [AV.v Value.nilFunc] := by kernel_rfl
@[simp] theorem tb_fk31 : flatK Try.prog 40 31 = none := by kernel_rfl
@[simp] theorem tb_eg31 : Try.prog.eqGuardType Try.prog.depth 31 = false := by kernel_rfl
@[simp] theorem tb_sz32 : szOf Try.prog 32 = some 1 := by kernel_rfl
@[simp] theorem tb_ag32 : isAggT Try.prog 32 = some false := by kernel_rfl
@[simp] theorem tb_sl32 : isSl Try.prog 32 = none := by kernel_rfl
@[simp] theorem tb_ar32 : isArr Try.prog 32 = none := by kernel_rfl
@[simp] theorem tb_st32 : isStr Try.prog 32 = false := by kernel_rfl
@[simp] theorem tb_in32 : isInt Try.prog 32 = none := by kernel_rfl
@[simp] theorem tb_u832 : isU8 Try.prog 32 = false := by kernel_rfl
@[simp] theorem tb_bo32 : isBool Try.prog 32 = false := by kernel_rfl
@[simp] theorem tb_nk32 : nkT Try.prog 32 = some NK.func := by kernel_rfl
@[simp] theorem tb_by32 : (Try.prog.info? 32).map (·.bytes) = some 8 := by kernel_rfl
@[simp] theorem tb_un32 : (Try.prog.underlying 32).isSome = true := by kernel_rfl
@[simp] theorem tb_so32 : sizesOk Try.prog 32 = false := by kernel_rfl
@[simp] theorem tb_ze32 : zeroOf Try.prog 32 = some [AV.v Value.nilFunc] := by kernel_rfl
@[simp] theorem tb_fk32 : flatK Try.prog 40 32 = none := by kernel_rfl
@[simp] theorem tb_eg32 : Try.prog.eqGuardType Try.prog.depth 32 = false := by kernel_rfl
@[simp] theorem tb_sz33 : szOf Try.prog 33 = some 3 := by kernel_rfl
@[simp] theorem tb_ag33 : isAggT Try.prog 33 = some true := by kernel_rfl
@[simp] theorem tb_sl33 : isSl Try.prog 33 = none := by kernel_rfl
@[simp] theorem tb_ar33 : isArr Try.prog 33 = none := by kernel_rfl
@[simp] theorem tb_st33 : isStr Try.prog 33 = false := by kernel_rfl
@[simp] theorem tb_in33 : isInt Try.prog 33 = none := by kernel_rfl
@[simp] theorem tb_u833 : isU8 Try.prog 33 = false := by kernel_rfl
@[simp] theorem tb_bo33 : isBool Try.prog 33 = false := by kernel_rfl
@[simp] theorem tb_nk33 : nkT Try.prog 33 = none := by kernel_rfl
@[simp] theorem tb_by33 : (Try.prog.info? 33).map (·.bytes) = some 6 := by kernel_rfl
@[simp] theorem tb_un33 : (Try.prog.underlying 33).isSome = true := by kernel_rfl
@[simp] theorem tb_so33 : sizesOk Try.prog 33 = true := by kernel_rfl
@[simp] theorem tb_ze33 : zeroOf Try.prog 33 = some [AV.v (Value.int IntKind.u16 (Int.ofNat 0)), AV.v (Value.int IntKind.u16 (Int.ofNat 0)), AV.v (Value.bool false)] := by kernel_rfl
@[simp] theorem tb_fk33 : flatK Try.prog 40 33 = some [LK.int, LK.int, LK.bool] := by kernel_rfl
@[simp] theorem tb_eg33 : Try.prog.eqGuardType Try.prog.depth 33 = false := by kernel_rfl
@[simp] theorem tb_fd33_0 : fieldOf Try.prog 33 0 = some (0, 25) := by kernel_rfl
@[simp] theorem tb_fd33_1 : fieldOf Try.prog 33 1 = some (1, 25) := by kernel_rfl
@[simp] theorem tb_fd33_2 : fieldOf Try.prog 33 2 = some (2, 4) := by kernel_rfl
@[simp] theorem tb_sz34 : szOf Try.prog 34 = some 3 := by kernel_rfl
@[simp] theorem tb_ag34 : isAggT Try.prog 34 = some true := by kernel_rfl
@[simp] theorem tb_sl34 : isSl Try.prog 34 = none := by kernel_rfl
@[simp] theorem tb_ar34 : isArr Try.prog 34 = none := by kernel_rfl
@[simp] theorem tb_st34 : isStr Try.prog 34 = false := by kernel_rfl
@[simp] theorem tb_in34 : isInt Try.prog 34 = none := by kernel_rfl
@[simp] theorem tb_u834 : isU8 Try.prog 34 = false := by kernel_rfl
@[simp] theorem tb_bo34 : isBool Try.prog 34 = false := by kernel_rfl
@[simp] theorem tb_nk34 : nkT Try.prog 34 = none := by kernel_rfl
@[simp] theorem tb_by34 : (Try.prog.info? 34).map (·.bytes) = some 6 := by kernel_rfl
@[simp] theorem tb_un34 : (Try.prog.underlying 34).isSome = true := by kernel_rfl
@[simp] theorem tb_so34 : sizesOk Try.prog 34 = true := by kernel_rfl
@[simp] theorem tb_ze34 : zeroOf Try.prog 34 = some [AV.v (Value.int IntKind.u16 (Int.ofNat 0)), AV.v (Value.int IntKind.u16 (Int.ofNat 0)), AV.v (Value.bool false)] := by kernel_rfl
@[simp] theorem tb_fk34 : flatK Try.prog 40 34 = some [LK.int, LK.int, LK.bool] := by kernel_rfl
@[simp] theorem tb_eg34 : Try.prog.eqGuardType Try.prog.depth 34 = false := by kernel_rfl
@[simp] theorem tb_fd34_0 : fieldOf Try.prog 34 0 = some (0, 25) := by kernel_rfl
@[simp] theorem tb_fd34_1 : fieldOf Try.prog 34 1 = some (1, 25) := by kernel_rfl
@[simp] theorem tb_fd34_2 : fieldOf Try.prog 34 2 = some (2, 4) := by kernel_rfl
@[simp] theorem tb_sz35 : szOf Try.prog 35 = some 1 := by kernel_rfl
@[simp] theorem tb_ag35 : isAggT Try.prog 35 = some false := by kernel_rfl
@[simp] theorem tb_sl35 : isSl Try.prog 35 = none := by kernel_rfl
@[simp] theorem tb_ar35 : isArr Try.prog 35 = none := by kernel_rfl
@[simp] theorem tb_st35 : isStr Try.prog 35 = false := by kernel_rfl
@[simp] theorem tb_in35 : isInt Try.prog 35 = none := by kernel_rfl
@[simp] theorem tb_u835 : isU8 Try.prog 35 = false := by kernel_rfl
@[simp] theorem tb_bo35 : isBool Try.prog 35 = false := by kernel_rfl
@[simp] theorem tb_nk35 : nkT Try.prog 35 = none := by kernel_rfl
@[simp] theorem tb_by35 : (Try.prog.info? 35).map (·.bytes) = some 0 := by kernel_rfl
@[simp] theorem tb_un35 : (Try.prog.underlying 35).isSome = true := by kernel_rfl
@[simp] theorem tb_so35 : sizesOk Try.prog 35 = false := by kernel_rfl
@[simp] theorem tb_fk35 : flatK Try.prog 40 35 = none := by kernel_rfl
@[simp] theorem tb_eg35 : Try.prog.eqGuardType Try.prog.depth 35 = false := by kernel_rfl
@[simp] theorem tb_sz36 : szOf Try.prog 36 = some 1 := by kernel_rfl
@[simp] theorem tb_ag36 : isAggT Try.prog 36 = some false := by kernel_rfl
@[simp] theorem tb_sl36 : isSl Try.prog 36 = none := by kernel_rfl
@[simp] theorem tb_ar36 : isArr Try.prog 36 = none := by kernel_rfl
@[simp] theorem tb_st36 : isStr Try.prog 36 = false := by kernel_rfl
@[simp] theorem tb_in36 : isInt Try.prog 36 = none := by kernel_rfl
@[simp] theorem tb_u836 : isU8 Try.prog 36 = false := by kernel_rfl
@[simp] theorem tb_bo36 : isBool Try.prog 36 = false := by kernel_rfl
@[simp] theorem tb_nk36 : nkT Try.prog 36 = some NK.func := by kernel_rfl
@[simp] theorem tb_by36 : (Try.prog.info? 36).map (·.bytes) = some 8 := by kernel_rfl
@[simp] theorem tb_un36 : (Try.prog.underlying 36).isSome = true := by kernel_rfl
@[simp] theorem tb_so36 : sizesOk Try.prog 36 = false := by kernel_rfl
@[simp] theorem tb_ze36 : zeroOf Try.prog 36 = some [AV.v Value.nilFunc] := by kernel_rfl
@[simp] theorem tb_fk36 : flatK Try.prog 40 36 = none := by kernel_rfl
@[simp] theorem tb_eg36 : Try.prog.eqGuardType Try.prog.depth 36 = false := by kernel_rfl
@[simp] theorem tb_sz37 : szOf Try.prog 37 = some 1 := by kernel_rfl
@[simp] theorem tb_ag37 : isAggT Try.prog 37 = some false := by kernel_rfl
@[simp] theorem tb_sl37 : isSl Try.prog 37 = none := by kernel_rfl
@[simp] theorem tb_ar37 : isArr Try.prog 37 = none := by kernel_rfl
@[simp] theorem tb_st37 : isStr Try.prog 37 = false := by kernel_rfl
@[simp] theorem tb_in37 : isInt Try.prog 37 = none := by kernel_rfl
@[simp] theorem tb_u837 : isU8 Try.prog 37 = false := by kernel_rfl
@[simp] theorem tb_bo37 : isBool Try.prog 37 = false := by kernel_rfl
@[simp] theorem tb_nk37 : nkT Try.prog 37 = none := by kernel_rfl
@[simp] theorem tb_by37 : (Try.prog.info? 37).map (·.bytes) = some 0 := by kernel_rfl
@[simp] theorem tb_un37 : (Try.prog.underlying 37).isSome = true := by kernel_rfl
@[simp] theorem tb_so37 : sizesOk Try.prog 37 = false := by kernel_rfl
@[simp] theorem tb_fk37 : flatK Try.prog 40 37 = none := by kernel_rfl
@[simp] theorem tb_eg37 : Try.prog.eqGuardType Try.prog.depth 37 = false := by kernel_rfl
@[simp] theorem tb_sz38 : szOf Try.prog 38 = some 1 := by kernel_rfl
@[simp] theorem tb_ag38 : isAggT Try.prog 38 = some false := by kernel_rfl
@[simp] theorem tb_sl38 : isSl Try.prog 38 = none := by kernel_rfl
@[simp] theorem tb_ar38 : isArr Try.prog 38 = none := by kernel_rfl
@[simp] theorem tb_st38 : isStr Try.prog 38 = false := by kernel_rfl
@[simp] theorem tb_in38 : isInt Try.prog 38 = none := by kernel_rfl
@[simp] theorem tb_u838 : isU8 Try.prog 38 = false := by kernel_rfl
@[simp] theorem tb_bo38 : isBool Try.prog 38 = false := by kernel_rfl
@[simp] theorem tb_nk38 : nkT Try.prog 38 = some NK.func := by kernel_rfl
@[simp] theorem tb_by38 : (Try.prog.info? 38).map (·.bytes) = some 8 := by kernel_rfl
@[simp] theorem tb_un38 : (Try.prog.underlying 38).isSome = true := by kernel_rfl
@[simp] theorem tb_so38 : sizesOk Try.prog 38 = false := by kernel_rfl
@[simp] theorem tb_ze38 : zeroOf Try.prog 38 = some [AV.v Value.nilFunc] := by kernel_rfl
@[simp] theorem tb_fk38 : flatK Try.prog 40 38 = none := by kernel_rfl
@[simp] theorem tb_eg38 : Try.prog.eqGuardType Try.prog.depth 38 = false := by kernel_rfl
@[simp] theorem tb_sz39 : szOf Try.prog 39 = some 1 := by kernel_rfl
@[simp] theorem tb_ag39 : isAggT Try.prog 39 = some false := by kernel_rfl
@[simp] theorem tb_sl39 : isSl Try.prog 39 = none := by kernel_rfl
@[simp] theorem tb_ar39 : isArr Try.prog 39 = none := by kernel_rfl
@[simp] theorem tb_st39 : isStr Try.prog 39 = false := by kernel_rfl
@[simp] theorem tb_in39 : isInt Try.prog 39 = none := by kernel_rfl
@[simp] theorem tb_u839 : isU8 Try.prog 39 = false := by kernel_rfl
@[simp] theorem tb_bo39 : isBool Try.prog 39 = false := by kernel_rfl
@[simp] theorem tb_nk39 : nkT Try.prog 39 = some NK.func := by kernel_rfl
@[simp] theorem tb_by39 : (Try.prog.info? 39).map (·.bytes) = some 8 := by kernel_rfl
@[simp] theorem tb_un39 : (Try.prog.underlying 39).isSome = true := by kernel_rfl
@[simp] theorem tb_so39 : sizesOk Try.prog 39 = false := by kernel_rfl
@[simp] theorem tb_ze39 : zeroOf Try.prog 39 = some [AV.v Value.nilFunc] := by kernel_rfl
@[simp] theorem tb_fk39 : flatK Try.prog 40 39 = none := by kernel_rfl
@[simp] theorem tb_eg39 : Try.prog.eqGuardType Try.prog.depth 39 = false := by kernel_rfl
@[simp] theorem tb_sz40 : szOf Try.prog 40 = some 1 := by kernel_rfl
@[simp] theorem tb_ag40 : isAggT Try.prog 40 = some false := by kernel_rfl
@[simp] theorem tb_sl40 : isSl Try.prog 40 = none := by kernel_rfl
@[simp] theorem tb_ar40 : isArr Try.prog 40 = none := by kernel_rfl
@[simp] theorem tb_st40 : isStr Try.prog 40 = false := by kernel_rfl
@[simp] theorem tb_in40 : isInt Try.prog 40 = none := by kernel_rfl
@[simp] theorem tb_u840 : isU8 Try.prog 40 = false := by kernel_rfl
@[simp] theorem tb_bo40 : isBool Try.prog 40 = false := by kernel_rfl
@[simp] theorem tb_nk40 : nkT Try.prog 40 = some NK.func := by kernel_rfl
@[simp] theorem tb_by40 : (Try.prog.info? 40).map (·.bytes) = some 8 := by kernel_rfl
@[simp] theorem tb_un40 : (Try.prog.underlying 40).isSome = true := by kernel_rfl
@[simp] theorem tb_so40 : sizesOk Try.prog 40 = false := by kernel_rfl
@[simp] theorem tb_ze40 : zeroOf Try.prog 40 = some [AV.v Value.nilFunc] := by kernel_rfl
@[simp] theorem tb_fk40 : flatK Try.prog 40 40 = none := by kernel_rfl
@[simp] theorem tb_eg40 : Try.prog.eqGuardType Try.prog.depth 40 = false := by kernel_rfl
@[simp] theorem tb_sz41 : szOf Try.prog 41 = some 1 := by kernel_rfl
@[simp] theorem tb_ag41 : isAggT Try.prog 41 = some false := by kernel_rfl
@[simp] theorem tb_sl41 : isSl Try.prog 41 = none := by kernel_rfl
@[simp] theorem tb_ar41 : isArr Try.prog 41 = none := by kernel_rfl
@[simp] theorem tb_st41 : isStr Try.prog 41 = false := by kernel_rfl
@[simp] theorem tb_in41 : isInt Try.prog 41 = none := by kernel_rfl
@[simp] theorem tb_u841 : isU8 Try.prog 41 = false := by kernel_rfl
@[simp] theorem tb_bo41 : isBool Try.prog 41 = false := by kernel_rfl
@[simp] theorem tb_nk41 : nkT Try.prog 41 = none := by kernel_rfl
@[simp] theorem tb_by41 : (Try.prog.info? 41).map (·.bytes) = some 0 := by kernel_rfl
@[simp] theorem tb_un41 : (Try.prog.underlying 41).isSome = true := by kernel_rfl
@[simp] theorem tb_so41 : sizesOk Try.prog 41 = false := by kernel_rfl
@[simp] theorem tb_fk41 : flatK Try.prog 40 41 = none := by kernel_rfl
@[simp] theorem tb_eg41 : Try.prog.eqGuardType Try.prog.depth 41 = false := by kernel_rfl
@[simp] theorem tb_sz42 : szOf Try.prog 42 = some 1 := by kernel_rfl
@[simp] theorem tb_ag42 : isAggT Try.prog 42 = some false := by kernel_rfl
@[simp] theorem tb_sl42 : isSl Try.prog 42 = none := by kernel_rfl
@[simp] theorem tb_ar42 : isArr Try.prog 42 = none := by kernel_rfl
@[simp] theorem tb_st42 : isStr Try.prog 42 = false := by kernel_rfl
@[simp] theorem tb_in42 : isInt Try.prog 42 = none := by kernel_rfl
@[simp] theorem tb_u842 : isU8 Try.prog 42 = false := by kernel_rfl
@[simp] theorem tb_bo42 : isBool Try.prog 42 = false := by kernel_rfl
@[simp] theorem tb_nk42 : nkT Try.prog 42 = some NK.func := by kernel_rfl
@[simp] theorem tb_by42 : (Try.prog.info? 42).map (·.bytes) = some 8 := by kernel_rfl
@[simp] theorem tb_un42 : (Try.prog.underlying 42).isSome = true := by kernel_rfl
@[simp] theorem tb_so42 : sizesOk Try.prog 42 = false := by kernel_rfl
@[simp] theorem tb_ze42 : zeroOf Try.prog 42 = some [AV.v Value.nilFunc] := by kernel_rfl
@[simp] theorem tb_fk42 : flatK Try.prog 40 42 = none := by kernel_rfl
@[simp] theorem tb_eg42 : Try.prog.eqGuardType Try.prog.depth 42 = false := by kernel_rfl
@[simp] theorem tb_sz43 : szOf Try.prog 43 = some 1 := by kernel_rfl
@[simp] theorem tb_ag43 : isAggT Try.prog 43 = some false := by kernel_rfl
@[simp] theorem tb_sl43 : isSl Try.prog 43 = none := by kernel_rfl
@[simp] theorem tb_ar43 : isArr Try.prog 43 = none := by kernel_rfl
@[simp] theorem tb_st43 : isStr Try.prog 43 = false := by kernel_rfl
@[simp] theorem tb_in43 : isInt Try.prog 43 = none := by kernel_rfl
@[simp] theorem tb_u843 : isU8 Try.prog 43 = false := by kernel_rfl
@[simp] theorem tb_bo43 : isBool Try.prog 43 = false := by kernel_rfl
@[simp] theorem tb_nk43 : nkT Try.prog 43 = some NK.func := by kernel_rfl
@[simp] theorem tb_by43 : (Try.prog.info? 43).map (·.bytes) = some 8 := by kernel_rfl
@[simp] theorem tb_un43 : (Try.prog.underlying 43).isSome = true := by kernel_rfl
@[simp] theorem tb_so43 : sizesOk Try.prog 43 = false := by kernel_rfl
@[simp] theorem tb_ze43 : zeroOf Try.prog 43 = some [AV.v Value.nilFunc] := by kernel_rfl
@[simp] theorem tb_fk43 : flatK Try.prog 40 43 = none := by kernel_rfl
@[simp] theorem tb_eg43 : Try.prog.eqGuardType Try.prog.depth 43 = false := by kernel_rfl
@[simp] theorem tb_sz44 : szOf Try.prog 44 = some 1 := by kernel_rfl
@[simp] theorem tb_ag44 : isAggT Try.prog 44 = some false := by kernel_rfl
@[simp] theorem tb_sl44 : isSl Try.prog 44 = none := by kernel_rfl
@[simp] theorem tb_ar44 : isArr Try.prog 44 = none := by kernel_rfl
@[simp] theorem tb_st44 : isStr Try.prog 44 = false := by kernel_rfl
@[simp] theorem tb_in44 : isInt Try.prog 44 = none := by kernel_rfl
@[simp] theorem tb_u844 : isU8 Try.prog 44 = false := by kernel_rfl
@[simp] theorem tb_bo44 : isBool Try.prog 44 = false := by kernel_rfl
@[simp] theorem tb_nk44 : nkT Try.prog 44 = some NK.func := by kernel_rfl
@[simp] theorem tb_by44 : (Try.prog.info? 44).map (·.bytes) = some 8 := by kernel_rfl
@[simp] theorem tb_un44 : (Try.prog.underlying 44).isSome = true := by kernel_rfl
@[simp] theorem tb_so44 : sizesOk Try.prog 44 = false := by kernel_rfl
@[simp] theorem tb_ze44 : zeroOf Try.prog 44 = some [AV.v Value.nilFunc] := by kernel_rfl
@[simp] theorem tb_fk44 : flatK Try.prog 40 44 = none := by kernel_rfl
@[simp] theorem tb_eg44 : Try.prog.eqGuardType Try.prog.depth 44 = false := by kernel_rfl
@[simp] theorem tb_sz45 : szOf Try.prog 45 = some 1 := by kernel_rfl
@[simp] theorem tb_ag45 : isAggT Try.prog 45 = some false := by kernel_rfl
@[simp] theorem tb_sl45 : isSl Try.prog 45 = none := by kernel_rfl
@[simp] theorem tb_ar45 : isArr Try.prog 45 = none := by kernel_rfl
@[simp] theorem tb_st45 : isStr Try.prog 45 = false := by kernel_rfl
@[simp] theorem tb_in45 : isInt Try.prog 45 = some IntKind.u64 := by kernel_rfl
@[simp] theorem tb_u845 : isU8 Try.prog 45 = false := by kernel_rfl
@[simp] theorem tb_bo45 : isBool Try.prog 45 = false := by kernel_rfl
@[simp] theorem tb_nk45 : nkT Try.prog 45 = none := by kernel_rfl
@[simp] theorem tb_by45 : (Try.prog.info? 45).map (·.bytes) = some 8 := by kernel_rfl
@[simp] theorem tb_un45 : (Try.prog.underlying 45).isSome = true := by kernel_rfl
@[simp] theorem tb_so45 : sizesOk Try.prog 45 = false := by kernel_rfl
@[simp] theorem tb_ze45 : zeroOf Try.prog 45 = some [AV.v (Value.int IntKind.u64 (Int.ofNat 0))] := by kernel_rfl
@[simp] theorem tb_fk45 : flatK Try.prog 40 45 = some [LK.int] := by kernel_rfl
@[simp] theorem tb_eg45 : Try.prog.eqGuardType Try.prog.depth 45 = false := by kernel_rfl
@[simp] theorem tb_sz46 : szOf Try.prog 46 = some 1 := by kernel_rfl
@[simp] theorem tb_ag46 : isAggT Try.prog 46 = some false := by kernel_rfl
@[simp] theorem tb_sl46 : isSl Try.prog 46 = none := by kernel_rfl
@[simp] theorem tb_ar46 : isArr Try.prog 46 = none := by kernel_rfl
@[simp] theorem tb_st46 : isStr Try.prog 46 = false := by kernel_rfl
@[simp] theorem tb_in46 : isInt Try.prog 46 = none := by kernel_rfl
@[simp] theorem tb_u846 : isU8 Try.prog 46 = false := by kernel_rfl
@[simp] theorem tb_bo46 : isBool Try.prog 46 = false := by kernel_rfl
@[simp] theorem tb_nk46 : nkT Try.prog 46 = some NK.func := by kernel_rfl
@[simp] theorem tb_by46 : (Try.prog.info? 46).map (·.bytes) = some 8 := by kernel_rfl
@[simp] theorem tb_un46 : (Try.prog.underlying 46).isSome = true := by kernel_rfl
@[simp] theorem tb_so46 : sizesOk Try.prog 46 = false := by kernel_rfl
@[simp] theorem tb_ze46 : zeroOf Try.prog 46 = some [AV.v Value.nilFunc] := by kernel_rfl
@[simp] theorem tb_fk46 : flatK Try.prog 40 46 = none := by kernel_rfl
@[simp] theorem tb_eg46 : Try.prog.eqGuardType Try.prog.depth 46 = false := by kernel_rfl
@[simp] theorem tb_sz47 : szOf Try.prog 47 = some 38 := by kernel_rfl
@[simp] theorem tb_ag47 : isAggT Try.prog 47 = some true := by kernel_rfl
@[simp] theorem tb_sl47 : isSl Try.prog 47 = none := by kernel_rfl
@[simp] theorem tb_ar47 : isArr Try.prog 47 = none := by kernel_rfl
@[simp] theorem tb_st47 : isStr Try.prog 47 = false := by kernel_rfl
@[simp] theorem tb_in47 : isInt Try.prog 47 = none := by kernel_rfl
@[simp] theorem tb_u847 : isU8 Try.prog 47 = false := by kernel_rfl
@[simp] theorem tb_bo47 : isBool Try.prog 47 = false := by kernel_rfl
@[simp] theorem tb_nk47 : nkT Try.prog 47 = none := by kernel_rfl
@[simp] theorem tb_by47 : (Try.prog.info? 47).map (·.bytes) = some 64 := by kernel_rfl
@[simp] theorem tb_un47 : (Try.prog.underlying 47).isSome = true := by kernel_rfl
@[simp] theorem tb_so47 : sizesOk Try.prog 47 = true := by kernel_rfl
@[simp] theorem tb_ze47 : zeroOf Try.prog 47 = some [AV.v (Value.int IntKind.u8 (Int.ofNat 0)), AV.v (Value.int IntKind.u16 (Int.ofNat 0)), AV.v (Value.bool false), AV.v (Value.int IntKind.u8 (Int.ofNat 0)), AV.v (Value.int IntKind.u8 (Int.ofNat 0)), AV.v (Value.int IntKind.u8 (Int.ofNat 0)), AV.v (Value.int IntKind.u8 (Int.ofNat 0)), AV.v (Value.int IntKind.u8 (Int.ofNat 0)), AV.v (Value.int IntKind.u8 (Int.ofNat 0)), AV.v (Value.int IntKind.u8 (Int.ofNat 0)), AV.v (Value.int IntKind.u8 (Int.ofNat 0)), AV.v (Value.int IntKind.u8 (Int.ofNat 0)), AV.v (Value.int IntKind.u8 (Int.ofNat 0)), AV.v (Value.int IntKind.u8 (Int.ofNat 0)), AV.v (Value.int IntKind.u8 (Int.ofNat 0)), AV.v (Value.int IntKind.u8 (Int.ofNat 0)), AV.v (Value.int IntKind.u8 (Int.ofNat 0)), AV.v (Value.int IntKind.u8 (Int.ofNat 0)), AV.v (Value.int IntKind.u8 (Int.ofNat 0)), AV.v (Value.int IntKind.u8 (Int.ofNat 0)), AV.v (Value.int IntKind.u8 (Int.ofNat 0)), AV.v (Value.int IntKind.u8 (Int.ofNat 0)), AV.v (Value.int IntKind.u8 (Int.ofNat 0)), AV.v (Value.int IntKind.u8 (Int.ofNat 0)), AV.v (Value.int IntKind.u8 (Int.ofNat 0)), AV.v (Value.int IntKind.u8 (Int.ofNat 0)), AV.v (Value.int IntKind.u8 (Int.ofNat 0)), AV.v (Value.int IntKind.u8 (Int.ofNat 0)), AV.v (Value.int IntKind.u8 (Int.ofNat 0)), AV.v (Value.int IntKind.u8 (Int.ofNat 0)), AV.v (Value.int IntKind.u8 (Int.ofNat 0)), AV.v (Value.int IntKind.u8 (Int.ofNat 0)), AV.v (Value.int IntKind.u8 (Int.ofNat 0)), AV.v (Value.int IntKind.u8 (Int.ofNat 0)), AV.v (Value.int IntKind.u8 (Int.ofNat 0)), AV.v (Value.int IntKind.u8 (Int.ofNat 0)), AV.v (Value.int IntKind.u8 (Int.ofNat 0)), AV.v (Value.slice none 0 0)] := by kernel_rfl
@[simp] theorem tb_fk47 : flatK Try.prog 40 47 = none := by kernel_rfl
@[simp] theorem tb_eg47 : Try.prog.eqGuardType Try.prog.depth 47 = false := by kernel_rfl
@[simp] theorem tb_fd47_0 : fieldOf Try.prog 47 0 = some (0, 5) := by kernel_rfl
@[simp] theorem tb_fd47_1 : fieldOf Try.prog 47 1 = some (1, 25) := by kernel_rfl
@[simp] theorem tb_fd47_2 : fieldOf Try.prog 47 2 = some (2, 4) := by kernel_rfl
@[simp] theorem tb_fd47_3 : fieldOf Try.prog 47 3 = some (3, 5) := by kernel_rfl
@[simp] theorem tb_fd47_4 : fieldOf Try.prog 47 4 = some (4, 5) := by kernel_rfl
@[simp] theorem tb_fd47_5 : fieldOf Try.prog 47 5 = some (5, 22) := by kernel_rfl
@[simp] theorem tb_fd47_6 : fieldOf Try.prog 47 6 = some (21, 22) := by kernel_rfl
@[simp] theorem tb_fd47_7 : fieldOf Try.prog 47 7 = some (37, 23) := by kernel_rfl
@[simp] theorem tb_sz48 : szOf Try.prog 48 = some 38 := by kernel_rfl
@[simp] theorem tb_ag48 : isAggT Try.prog 48 = some true := by kernel_rfl
@[simp] theorem tb_sl48 : isSl Try.prog 48 = none := by kernel_rfl
@[simp] theorem tb_ar48 : isArr Try.prog 48 = none := by kernel_rfl
@[simp] theorem tb_st48 : isStr Try.prog 48 = false := by kernel_rfl
@[simp] theorem tb_in48 : isInt Try.prog 48 = none := by kernel_rfl
@[simp] theorem tb_u848 : isU8 Try.prog 48 = false := by kernel_rfl
@[simp] theorem tb_bo48 : isBool Try.prog 48 = false := by kernel_rfl
@[simp] theorem tb_nk48 : nkT Try.prog 48 = none := by kernel_rfl
@[simp] theorem tb_by48 : (Try.prog.info? 48).map (·.bytes) = some 64 := by kernel_rfl
@[simp] theorem tb_un48 : (Try.prog.underlying 48).isSome = true := by kernel_rfl
@[simp] theorem tb_so48 : sizesOk Try.prog 48 = true := by kernel_rfl
@[simp] theorem tb_ze48 : zeroOf Try.prog 48 = some [AV.v (Value.int IntKind.u8 (Int.ofNat 0)), AV.v (Value.int IntKind.u16 (Int.ofNat 0)), AV.v (Value.bool false), AV.v (Value.int IntKind.u8 (Int.ofNat 0)), AV.v (Value.int IntKind.u8 (Int.ofNat 0)), AV.v (Value.int IntKind.u8 (Int.ofNat 0)), AV.v (Value.int IntKind.u8 (Int.ofNat 0)), AV.v (Value.int IntKind.u8 (Int.ofNat 0)), AV.v (Value.int IntKind.u8 (Int.ofNat 0)), AV.v (Value.int IntKind.u8 (Int.ofNat 0)), AV.v (Value.int IntKind.u8 (Int.ofNat 0)), AV.v (Value.int IntKind.u8 (Int.ofNat 0)), AV.v (Value.int IntKind.u8 (Int.ofNat 0)), AV.v (Value.int IntKind.u8 (Int.ofNat 0)), AV.v (Value.int IntKind.u8 (Int.ofNat 0)), AV.v (Value.int IntKind.u8 (Int.ofNat 0)), AV.v (Value.int IntKind.u8 (Int.ofNat 0)), AV.v (Value.int IntKind.u8 (Int.ofNat 0)), AV.v (Value.int IntKind.u8 (Int.ofNat 0)), AV.v (Value.int IntKind.u8 (Int.ofNat 0)), AV.v (Value.int IntKind.u8 (Int.ofNat 0)), AV.v (Value.int IntKind.u8 (Int.ofNat 0)), AV.v (Value.int IntKind.u8 (Int.ofNat 0)), AV.v (Value.int IntKind.u8 (Int.ofNat 0)), AV.v (Value.int IntKind.u8 (Int.ofNat 0)), AV.v (Value.int IntKind.u8 (Int.ofNat 0)), AV.v (Value.int IntKind.u8 (Int.ofNat 0)), AV.v (Value.int IntKind.u8 (Int.ofNat 0)), AV.v (Value.int IntKind.u8 (Int.ofNat 0)), AV.v (Value.int IntKind.u8 (Int.ofNat 0)), AV.v (Value.int IntKind.u8 (Int.ofNat 0)), AV.v (Value.int IntKind.u8 (Int.ofNat 0)), AV.v (Value.int IntKind.u8 (Int.ofNat 0)), AV.v (Value.int IntKind.u8 (Int.ofNat 0)), AV.v (Value.int IntKind.u8 (Int.ofNat 0)), AV.v (Value.int IntKind.u8 (Int.ofNat 0)), AV.v (Value.int IntKind.u8 (Int.ofNat 0)), AV.v (Value.slice none 0 0)] := by kernel_rfl
@[simp] theorem tb_fk48 : flatK Try.prog 40 48 = none := by kernel_rfl
@[simp] theorem tb_eg48 : Try.prog.eqGuardType Try.prog.depth 48 = false := by kernel_rfl
@[simp] theorem tb_fd48_0 : fieldOf Try.prog 48 0 = some (0, 5) := by kernel_rfl
@[simp] theorem tb_fd48_1 : fieldOf Try.prog 48 1 = some (1, 25) := by kernel_rfl
@[simp] theorem tb_fd48_2 : fieldOf Try.prog 48 2 = some (2, 4) := by kernel_rfl
@[simp] theorem tb_fd48_3 : fieldOf Try.prog 48 3 = some (3, 5) := by kernel_rfl
@[simp] theorem tb_fd48_4 : fieldOf Try.prog 48 4 = some (4, 5) := by kernel_rfl
@[simp] theorem tb_fd48_5 : fieldOf Try.prog 48 5 = some (5, 22) := by kernel_rfl
@[simp] theorem tb_fd48_6 : fieldOf Try.prog 48 6 = some (21, 22) := by kernel_rfl
@[simp] theorem tb_fd48_7 : fieldOf Try.prog 48 7 = some (37, 23) := by kernel_rfl
@[simp] theorem tb_sz49 : szOf Try.prog 49 = some 1 := by kernel_rfl
@[simp] theorem tb_ag49 : isAggT Try.prog 49 = some false := by kernel_rfl
@[simp] theorem tb_sl49 : isSl Try.prog 49 = none := by kernel_rfl
@[simp] theorem tb_ar49 : isArr Try.prog 49 = none := by kernel_rfl
@[simp] theorem tb_st49 : isStr Try.prog 49 = false := by kernel_rfl
@[simp] theorem tb_in49 : isInt Try.prog 49 = none := by kernel_rfl
@[simp] theorem tb_u849 : isU8 Try.prog 49 = false := by kernel_rfl
@[simp] theorem tb_bo49 : isBool Try.prog 49 = false := by kernel_rfl
@[simp] theorem tb_nk49 : nkT Try.prog 49 = none := by kernel_rfl
@[simp] theorem tb_by49 : (Try.prog.info? 49).map (·.bytes) = some 0 := by kernel_rfl
@[simp] theorem tb_un49 : (Try.prog.underlying 49).isSome = true := by kernel_rfl
@[simp] theorem tb_so49 : sizesOk Try.prog 49 = false := by kernel_rfl
@[simp] theorem tb_fk49 : flatK Try.prog 40 49 = none := by kernel_rfl
@[simp] theorem tb_eg49 : Try.prog.eqGuardType Try.prog.depth 49 = false := by kernel_rfl
@[simp] theorem tb_sz50 : szOf Try.prog 50 = some 1 := by kernel_rfl
@[simp] theorem tb_ag50 : isAggT Try.prog 50 = some false := by kernel_rfl
@[simp] theorem tb_sl50 : isSl Try.prog 50 = none := by kernel_rfl
@[simp] theorem tb_ar50 : isArr Try.prog 50 = none := by kernel_rfl
@[simp] theorem tb_st50 : isStr Try.prog 50 = false := by kernel_rfl
@[simp] theorem tb_in50 : isInt Try.prog 50 = none := by kernel_rfl
@[simp] theorem tb_u850 : isU8 Try.prog 50 = false := by kernel_rfl
@[simp] theorem tb_bo50 : isBool Try.prog 50 = false := by kernel_rfl
@[simp] theorem tb_nk50 : nkT Try.prog 50 = some NK.func := by kernel_rfl
@[simp] theorem tb_by50 : (Try.prog.info? 50).map (·.bytes) = some 8 := by kernel_rfl
@[simp] theorem tb_un50 : (Try.prog.underlying 50).isSome = true := by kernel_rfl
@[simp] theorem tb_so50 : sizesOk Try.prog 50 = false := by kernel_rfl
@[simp] theorem tb_ze50 : zeroOf Try.prog 50 = some [AV.v Value.nilFunc] := by kernel_rfl
@[simp] theorem tb_fk50 : flatK Try.prog 40 50 = none := by kernel_rfl
@[simp] theorem tb_eg50 : Try.prog.eqGuardType Try.prog.depth 50 = false := by kernel_rfl
@[simp] theorem tb_sz51 : szOf Try.prog 51 = some 1 := by kernel_rfl
@[simp] theorem tb_ag51 : isAggT Try.prog 51 = some false := by kernel_rfl
@[simp] theorem tb_sl51 : isSl Try.prog 51 = none := by kernel_rfl
@[simp] theorem tb_ar51 : isArr Try.prog 51 = none := by kernel_rfl
@[simp] theorem tb_st51 : isStr Try.prog 51 = false := by kernel_rfl
@[simp] theorem tb_in51 : isInt Try.prog 51 = none := by kernel_rfl
@[simp] theorem tb_u851 : isU8 Try.prog 51 = false := by kernel_rfl
@[simp] theorem tb_bo51 : isBool Try.prog 51 = false := by kernel_rfl
@[simp] theorem tb_nk51 : nkT Try.prog 51 = some NK.func := by kernel_rfl
@[simp] theorem tb_by51 : (Try.prog.info? 51).map (·.bytes) = some 8 := by kernel_rfl
@[simp] theorem tb_un51 : (Try.prog.underlying 51).isSome = true := by kernel_rfl
@[simp] theorem tb_so51 : sizesOk Try.prog 51 = false := by kernel_rfl
@[simp] theorem tb_ze51 : zeroOf Try.prog 51 = some [AV.v Value.nilFunc] := by kernel_rfl
@[simp] theorem tb_fk51 : flatK Try.prog 40 51 = none := by kernel_rfl
@[simp] theorem tb_eg51 : Try.prog.eqGuardType Try.prog.depth 51 = false := by kernel_rfl
@[simp] theorem tb_sz52 : szOf Try.prog 52 = some 1 := by kernel_rfl
@[simp] theorem tb_ag52 : isAggT Try.prog 52 = some false := by kernel_rfl
@[simp] theorem tb_sl52 : isSl Try.prog 52 = none := by kernel_rfl
@[simp] theorem tb_ar52 : isArr Try.prog 52 = none := by kernel_rfl
@[simp] theorem tb_st52 : isStr Try.prog 52 = false := by kernel_rfl
@[simp] theorem tb_in52 : isInt Try.prog 52 = none := by kernel_rfl
@[simp] theorem tb_u852 : isU8 Try.prog 52 = false := by kernel_rfl
@[simp] theorem tb_bo52 : isBool Try.prog 52 = false := by kernel_rfl
@[simp] theorem tb_nk52 : nkT Try.prog 52 = some NK.func := by kernel_rfl
@[simp] theorem tb_by52 : (Try.prog.info? 52).map (·.bytes) = some 8 := by kernel_rfl
@[simp] theorem tb_un52 : (Try.prog.underlying 52).isSome = true := by kernel_rfl
@[simp] theorem tb_so52 : sizesOk Try.prog 52 = false := by kernel_rfl
@[simp] theorem tb_ze52 : zeroOf Try.prog 52 = some [AV.v Value.nilFunc] := by kernel_rfl
@[simp] theorem tb_fk52 : flatK Try.prog 40 52 = none := by kernel_rfl
@[simp] theorem tb_eg52 : Try.prog.eqGuardType Try.prog.depth 52 = false := by kernel_rfl
@[simp] theorem tb_sz53 : szOf Try.prog 53 = some 1 := by kernel_rfl
@[simp] theorem tb_ag53 : isAggT Try.prog 53 = some false := by kernel_rfl
@[simp] theorem tb_sl53 : isSl Try.prog 53 = none := by kernel_rfl
@[simp] theorem tb_ar53 : isArr Try.prog 53 = none := by kernel_rfl
@[simp] theorem tb_st53 : isStr Try.prog 53 = false := by kernel_rfl
@[simp] theorem tb_in53 : isInt Try.prog 53 = none := by kernel_rfl
@[simp] theorem tb_u853 : isU8 Try.prog 53 = false := by kernel_rfl
@[simp] theorem tb_bo53 : isBool Try.prog 53 = false := by kernel_rfl
@[simp] theorem tb_nk53 : nkT Try.prog 53 = some NK.func := by kernel_rfl
@[simp] theorem tb_by53 : (Try.prog.info? 53).map (·.bytes) = some 8 := by kernel_rfl
@[simp] theorem tb_un53 : (Try.prog.underlying 53).isSome = true := by kernel_rfl
@[simp] theorem tb_so53 : sizesOk Try.prog 53 = false := by kernel_rfl
@[simp] theorem tb_ze53 : zeroOf Try.prog 53 = some [AV.v Value.nilFunc] := by kernel_rfl
@[simp] theorem tb_fk53 : flatK Try.prog 40 53 = none := by kernel_rfl
@[simp] theorem tb_eg53 : Try.prog.eqGuardType Try.prog.depth 53 = false := by kernel_rfl
@[simp] theorem tb_sz54 : szOf Try.prog 54 = some 1 := by kernel_rfl
@[simp] theorem tb_ag54 : isAggT Try.prog 54 = some false := by kernel_rfl
@[simp] theorem tb_sl54 : isSl Try.prog 54 = none := by kernel_rfl
@[simp] theorem tb_ar54 : isArr Try.prog 54 = none := by kernel_rfl
@[simp] theorem tb_st54 : isStr Try.prog 54 = false := by kernel_rfl
@[simp] theorem tb_in54 : isInt Try.prog 54 = none := by kernel_rfl
@[simp] theorem tb_u854 : isU8 Try.prog 54 = false := by kernel_rfl
@[simp] theorem tb_bo54 : isBool Try.prog 54 = false := by kernel_rfl
@[simp] theorem tb_nk54 : nkT Try.prog 54 = some NK.func := by kernel_rfl
@[simp] theorem tb_by54 : (Try.prog.info? 54).map (·.bytes) = some 8 := by kernel_rfl
@[simp] theorem tb_un54 : (Try.prog.underlying 54).isSome = true := by kernel_rfl
@[simp] theorem tb_so54 : sizesOk Try.prog 54 = false := by kernel_rfl
@[simp] theorem tb_ze54 : zeroOf Try.prog 54 = some [AV.v Value.nilFunc] := by kernel_rfl
@[simp] theorem tb_fk54 : flatK Try.prog 40 54 = none := by kernel_rfl
@[simp] theorem tb_eg54 : Try.prog.eqGuardType Try.prog.depth 54 = false := by kernel_rfl
@[simp] theorem tb_sz55 : szOf Try.prog 55 = some 1 := by kernel_rfl
@[simp] theorem tb_ag55 : isAggT Try.prog 55 = some false := by kernel_rfl
@[simp] theorem tb_sl55 : isSl Try.prog 55 = none := by kernel_rfl
@[simp] theorem tb_ar55 : isArr Try.prog 55 = none := by kernel_rfl
@[simp] theorem tb_st55 : isStr Try.prog 55 = false := by kernel_rfl
@[simp] theorem tb_in55 : isInt Try.prog 55 = none := by kernel_rfl
@[simp] theorem tb_u855 : isU8 Try.prog 55 = false := by kernel_rfl
@[simp] theorem tb_bo55 : isBool Try.prog 55 = false := by kernel_rfl
@[simp] theorem tb_nk55 : nkT Try.prog 55 = some NK.func := by kernel_rfl
@[simp] theorem tb_by55 : (Try.prog.info? 55).map (·.bytes) = some 8 := by kernel_rfl
@[simp] theorem tb_un55 : (Try.prog.underlying 55).isSome = true := by kernel_rfl
@[simp] theorem tb_so55 : sizesOk Try.prog 55 = false := by kernel_rfl
@[simp] theorem tb_ze55 : zeroOf Try.prog 55 = some [AV.v Value.nilFunc] := by kernel_rfl
@[simp] theorem tb_fk55 : flatK Try.prog 40 55 = none := by kernel_rfl
@[simp] theorem tb_eg55 : Try.prog.eqGuardType Try.prog.depth 55 = false := by kernel_rfl
@[simp] theorem tb_sz56 : szOf Try.prog 56 = some 1 := by kernel_rfl
@[simp] theorem tb_ag56 : isAggT Try.prog 56 = some false := by kernel_rfl
@[simp] theorem tb_sl56 : isSl Try.prog 56 = none := by kernel_rfl
@[simp] theorem tb_ar56 : isArr Try.prog 56 = none := by kernel_rfl
@[simp] theorem tb_st56 : isStr Try.prog 56 = false := by kernel_rfl
@[simp] theorem tb_in56 : isInt Try.prog 56 = none := by kernel_rfl
@[simp] theorem tb_u856 : isU8 Try.prog 56 = false := by kernel_rfl
@[simp] theorem tb_bo56 : isBool Try.prog 56 = false := by kernel_rfl
@[simp] theorem tb_nk56 : nkT Try.prog 56 = some NK.func := by kernel_rfl
@[simp] theorem tb_by56 : (Try.prog.info? 56).map (·.bytes) = some 8 := by kernel_rfl
@[simp] theorem tb_un56 : (Try.prog.underlying 56).isSome = true := by kernel_rfl
@[simp] theorem tb_so56 : sizesOk Try.prog 56 = false := by kernel_rfl
@[simp] theorem tb_ze56 : zeroOf Try.prog 56 = some [AV.v Value.nilFunc] := by kernel_rfl
@[simp] theorem tb_fk56 : flatK Try.prog 40 56 = none := by kernel_rfl
@[simp] theorem tb_eg56 : Try.prog.eqGuardType Try.prog.depth 56 = false := by kernel_rfl
@[simp] theorem tb_sz57 : szOf Try.prog 57 = some 1 := by kernel_rfl
@[simp] theorem tb_ag57 : isAggT Try.prog 57 = some false := by kernel_rfl
@[simp] theorem tb_sl57 : isSl Try.prog 57 = none := by kernel_rfl
@[simp] theorem tb_ar57 : isArr Try.prog 57 = none := by kernel_rfl
@[simp] theorem tb_st57 : isStr Try.prog 57 = false := by kernel_rfl
@[simp] theorem tb_in57 : isInt Try.prog 57 = none := by kernel_rfl
@[simp] theorem tb_u857 : isU8 Try.prog 57 = false := by kernel_rfl
@[simp] theorem tb_bo57 : isBool Try.prog 57 = false := by kernel_rfl
@[simp] theorem tb_nk57 : nkT Try.prog 57 = some NK.func := by kernel_rfl
@[simp] theorem tb_by57 : (Try.prog.info? 57).map (·.bytes) = some 8 := by kernel_rfl
@[simp] theorem tb_un57 : (Try.prog.underlying 57).isSome = true := by kernel_rfl
@[simp] theorem tb_so57 : sizesOk Try.prog 57 = false := by kernel_rfl
@[simp] theorem tb_ze57 : zeroOf Try.prog 57 = some [AV.v Value.nilFunc] := by kernel_rfl
@[simp] theorem tb_fk57 : flatK Try.prog 40 57 = none := by kernel_rfl
@[simp] theorem tb_eg57 : Try.prog.eqGuardType Try.prog.depth 57 = false := by kernel_rfl
@[simp] theorem tb_sz58 : szOf Try.prog 58 = some 38 := by kernel_rfl
@[simp] theorem tb_ag58 : isAggT Try.prog 58 = some true := by kernel_rfl
@[simp] theorem tb_sl58 : isSl Try.prog 58 = none := by kernel_rfl
@[simp] theorem tb_ar58 : isArr Try.prog 58 = none := by kernel_rfl
@[simp] theorem tb_st58 : isStr Try.prog 58 = false := by kernel_rfl
@[simp] theorem tb_in58 : isInt Try.prog 58 = none := by kernel_rfl
@[simp] theorem tb_u858 : isU8 Try.prog 58 = false := by kernel_rfl
@[simp] theorem tb_bo58 : isBool Try.prog 58 = false := by kernel_rfl
@[simp] theorem tb_nk58 : nkT Try.prog 58 = none := by kernel_rfl
@[simp] theorem tb_by58 : (Try.prog.info? 58).map (·.bytes) = some 72 := by kernel_rfl
@[simp] theorem tb_un58 : (Try.prog.underlying 58).isSome = true := by kernel_rfl
@[simp] theorem tb_so58 : sizesOk Try.prog 58 = true := by kernel_rfl
@[simp] theorem tb_ze58 : zeroOf Try.prog 58 = some [AV.v (Value.int IntKind.u8 (Int.ofNat 0)), AV.v (Value.int IntKind.u32 (Int.ofNat 0)), AV.v (Value.int IntKind.u8 (Int.ofNat 0)), AV.v (Value.int IntKind.u8 (Int.ofNat 0)), AV.v (Value.int IntKind.u8 (Int.ofNat 0)), AV.v (Value.int IntKind.u8 (Int.ofNat 0)), AV.v (Value.int IntKind.u8 (Int.ofNat 0)), AV.v (Value.int IntKind.u8 (Int.ofNat 0)), AV.v (Value.int IntKind.u8 (Int.ofNat 0)), AV.v (Value.int IntKind.u8 (Int.ofNat 0)), AV.v (Value.int IntKind.u8 (Int.ofNat 0)), AV.v (Value.int IntKind.u8 (Int.ofNat 0)), AV.v (Value.int IntKind.u8 (Int.ofNat 0)), AV.v (Value.int IntKind.u8 (Int.ofNat 0)), AV.v (Value.int IntKind.u8 (Int.ofNat 0)), AV.v (Value.int IntKind.u8 (Int.ofNat 0)), AV.v (Value.int IntKind.u8 (Int.ofNat 0)), AV.v (Value.int IntKind.u8 (Int.ofNat 0)), AV.v (Value.int IntKind.u8 (Int.ofNat 0)), AV.v (Value.int IntKind.u8 (Int.ofNat 0)), AV.v (Value.int IntKind.u8 (Int.ofNat 0)), AV.v (Value.int IntKind.u8 (Int.ofNat 0)), AV.v (Value.int IntKind.u8 (Int.ofNat 0)), AV.v (Value.int IntKind.u8 (Int.ofNat 0)), AV.v (Value.int IntKind.u8 (Int.ofNat 0)), AV.v (Value.int IntKind.u8 (Int.ofNat 0)), AV.v (Value.int IntKind.u8 (Int.ofNat 0)), AV.v (Value.int IntKind.u8 (Int.ofNat 0)), AV.v (Value.int IntKind.u8 (Int.ofNat 0)), AV.v (Value.int IntKind.u8 (Int.ofNat 0)), AV.v (Value.int IntKind.u8 (Int.ofNat 0)), AV.v (Value.int IntKind.u8 (Int.ofNat 0)), AV.v (Value.int IntKind.u8 (Int.ofNat 0)), AV.v (Value.int IntKind.u8 (Int.ofNat 0)), AV.v (Value.int IntKind.u8 (Int.ofNat 0)), AV.v (Value.int IntKind.u8 (Int.ofNat 0)), AV.v (Value.int IntKind.u8 (Int.ofNat 0)), AV.v (Value.slice none 0 0)] := by kernel_rfl
@[simp] theorem tb_fk58 : flatK Try.prog 40 58 = none := by kernel_rfl
@[simp] theorem tb_eg58 : Try.prog.eqGuardType Try.prog.depth 58 = false := by kernel_rfl
@[simp] theorem tb_fd58_0 : fieldOf Try.prog 58 0 = some (0, 5) := by kernel_rfl
@[simp] theorem tb_fd58_1 : fieldOf Try.prog 58 1 = some (1, 26) := by kernel_rfl
@[simp] theorem tb_fd58_2 : fieldOf Try.prog 58 2 = some (2, 5) := by kernel_rfl
@[simp] theorem tb_fd58_3 : fieldOf Try.prog 58 3 = some (3, 5) := by kernel_rfl
@[simp] theorem tb_fd58_4 : fieldOf Try.prog 58 4 = some (4, 5) := by kernel_rfl
@[simp] theorem tb_fd58_5 : fieldOf Try.prog 58 5 = some (5, 22) := by kernel_rfl
@[simp] theorem tb_fd58_6 : fieldOf Try.prog 58 6 = some (21, 22) := by kernel_rfl
@[simp] theorem tb_fd58_7 : fieldOf Try.prog 58 7 = some (37, 23) := by kernel_rfl
@[simp] theorem tb_sz59 : szOf Try.prog 59 = some 38 := by kernel_rfl
@[simp] theorem tb_ag59 : isAggT Try.prog 59 = some true := by kernel_rfl
@[simp] theorem tb_sl59 : isSl Try.prog 59 = none := by kernel_rfl
@[simp] theorem tb_ar59 : isArr Try.prog 59 = none := by kernel_rfl
@[simp] theorem tb_st59 : isStr Try.prog 59 = false := by kernel_rfl
@[simp] theorem tb_in59 : isInt Try.prog 59 = none := by kernel_rfl
@[simp] theorem tb_u859 : isU8 Try.prog 59 = false := by kernel_rfl
@[simp] theorem tb_bo59 : isBool Try.prog 59 = false := by kernel_rfl
@[simp] theorem tb_nk59 : nkT Try.prog 59 = none := by kernel_rfl
@[simp] theorem tb_by59 : (Try.prog.info? 59).map (·.bytes) = some 72 := by kernel_rfl
@[simp] theorem tb_un59 : (Try.prog.underlying 59).isSome = true := by kernel_rfl
@[simp] theorem tb_so59 : sizesOk Try.prog 59 = true := by kernel_rfl
@[simp] theorem tb_ze59 : zeroOf Try.prog 59 = some [AV.v (Value.int IntKind.u8 (Int.ofNat 0)), AV.v (Value.int IntKind.u32 (Int.ofNat 0)), AV.v (Value.int IntKind.u8 (Int.ofNat 0)), AV.v (Value.int IntKind.u8 (Int.ofNat 0)), AV.v (Value.int IntKind.u8 (Int.ofNat 0)), AV.v (Value.int IntKind.u8 (Int.ofNat 0)), AV.v (Value.int IntKind.u8 (Int.ofNat 0)), AV.v (Value.int IntKind.u8 (Int.ofNat 0)), AV.v (Value.int IntKind.u8 (Int.ofNat 0)), AV.v (Value.int IntKind.u8 (Int.ofNat 0)), AV.v (Value.int IntKind.u8 (Int.ofNat 0)), AV.v (Value.int IntKind.u8 (Int.ofNat 0)), AV.v (Value.int IntKind.u8 (Int.ofNat 0)), AV.v (Value.int IntKind.u8 (Int.ofNat 0)), AV.v (Value.int IntKind.u8 (Int.ofNat 0)), AV.v (Value.int IntKind.u8 (Int.ofNat 0)), AV.v (Value.int IntKind.u8 (Int.ofNat 0)), AV.v (Value.int IntKind.u8 (Int.ofNat 0)), AV.v (Value.int IntKind.u8 (Int.ofNat 0)), AV.v (Value.int IntKind.u8 (Int.ofNat 0)), AV.v (Value.int IntKind.u8 (Int.ofNat 0)), AV.v (Value.int IntKind.u8 (Int.ofNat 0)), AV.v (Value.int IntKind.u8 (Int.ofNat 0)), AV.v (Value.int IntKind.u8 (Int.ofNat 0)), AV.v (Value.int IntKind.u8 (Int.ofNat 0)), AV.v (Value.int IntKind.u8 (Int.ofNat 0)), AV.v (Value.int IntKind.u8 (Int.ofNat 0)), AV.v (Value.int IntKind.u8 (Int.ofNat 0)), AV.v (Value.int IntKind.u8 (Int.ofNat 0)), AV.v (Value.int IntKind.u8 (Int.ofNat 0)), AV.v (Value.int IntKind.u8 (Int.ofNat 0)), AV.v (Value.int IntKind.u8 (Int.ofNat 0)), AV.v (Value.int IntKind.u8 (Int.ofNat 0)), AV.v (Value.int IntKind.u8 (Int.ofNat 0)), AV.v (Value.int IntKind.u8 (Int.ofNat 0)), AV.v (Value.int IntKind.u8 (Int.ofNat 0)), AV.v (Value.int IntKind.u8 (Int.ofNat 0)), AV.v (Value.slice none 0 0)] := by kernel_rfl
@[simp] theorem tb_fk59 : flatK Try.prog 40 59 = none := by kernel_rfl
@[simp] theorem tb_eg59 : Try.prog.eqGuardType Try.prog.depth 59 = false := by kernel_rfl
@[simp] theorem tb_fd59_0 : fieldOf Try.prog 59 0 = some (0, 5) := by kernel_rfl
@[simp] theorem tb_fd59_1 : fieldOf Try.prog 59 1 = some (1, 26) := by kernel_rfl
@[simp] theorem tb_fd59_2 : fieldOf Try.prog 59 2 = some (2, 5) := by kernel_rfl
@[simp] theorem tb_fd59_3 : fieldOf Try.prog 59 3 = some (3, 5) := by kernel_rfl
@[simp] theorem tb_fd59_4 : fieldOf Try.prog 59 4 = some (4, 5) := by kernel_rfl
@[simp] theorem tb_fd59_5 : fieldOf Try.prog 59 5 = some (5, 22) := by kernel_rfl
@[simp] theorem tb_fd59_6 : fieldOf Try.prog 59 6 = some (21, 22) := by kernel_rfl
@[simp] theorem tb_fd59_7 : fieldOf Try.prog 59 7 = some (37, 23) := by kernel_rfl
@[simp] theorem tb_sz60 : szOf Try.prog 60 = some 1 := by kernel_rfl
@[simp] theorem tb_ag60 : isAggT Try.prog 60 = some false := by kernel_rfl
@[simp] theorem tb_sl60 : isSl Try.prog 60 = none := by kernel_rfl
@[simp] theorem tb_ar60 : isArr Try.prog 60 = none := by kernel_rfl
@[simp] theorem tb_st60 : isStr Try.prog 60 = false := by kernel_rfl
@[simp] theorem tb_in60 : isInt Try.prog 60 = none := by kernel_rfl
@[simp] theorem tb_u860 : isU8 Try.prog 60 = false := by kernel_rfl
@[simp] theorem tb_bo60 : isBool Try.prog 60 = false := by kernel_rfl
@[simp] theorem tb_nk60 : nkT Try.prog 60 = none := by kernel_rfl
@[simp] theorem tb_by60 : (Try.prog.info? 60).map (·.bytes) = some 0 := by kernel_rfl
@[simp] theorem tb_un60 : (Try.prog.underlying 60).isSome = true := by kernel_rfl
@[simp] theorem tb_so60 : sizesOk Try.prog 60 = false := by kernel_rfl
@[simp] theorem tb_fk60 : flatK Try.prog 40 60 = none := by kernel_rfl
@[simp] theorem tb_eg60 : Try.prog.eqGuardType Try.prog.depth 60 = false := by kernel_rfl
@[simp] theorem tb_sz61 : szOf Try.prog 61 = some 1 := by kernel_rfl
@[simp] theorem tb_ag61 : isAggT Try.prog 61 = some false := by kernel_rfl
@[simp] theorem tb_sl61 : isSl Try.prog 61 = none := by kernel_rfl
@[simp] theorem tb_ar61 : isArr Try.prog 61 = none := by kernel_rfl
@[simp] theorem tb_st61 : isStr Try.prog 61 = false := by kernel_rfl
@[simp] theorem tb_in61 : isInt Try.prog 61 = none := by kernel_rfl
@[simp] theorem tb_u861 : isU8 Try.prog 61 = false := by kernel_rfl
@[simp] theorem tb_bo61 : isBool Try.prog 61 = false := by kernel_rfl
@[simp] theorem tb_nk61 : nkT Try.prog 61 = some NK.func := by kernel_rfl
@[simp] theorem tb_by61 : (Try.prog.info? 61).map (·.bytes) = some 8 := by kernel_rfl
@[simp] theorem tb_un61 : (Try.prog.underlying 61).isSome = true := by kernel_rfl
@[simp] theorem tb_so61 : sizesOk Try.prog 61 = false := by kernel_rfl
@[simp] theorem tb_ze61 : zeroOf Try.prog 61 = some [AV.v Value.nilFunc] := by kernel_rfl
@[simp] theorem tb_fk61 : flatK Try.prog 40 61 = none := by kernel_rfl
@[simp] theorem tb_eg61 : Try.prog.eqGuardType Try.prog.depth 61 = false := by kernel_rfl
@[simp] theorem tb_sz62 : szOf Try.prog 62 = some 1 := by kernel_rfl
@[simp] theorem tb_ag62 : isAggT Try.prog 62 = some false := by kernel_rfl
@[simp] theorem tb_sl62 : isSl Try.prog 62 = none := by kernel_rfl
@[simp] theorem tb_ar62 : isArr Try.prog 62 = none := by kernel_rfl
@[simp] theorem tb_st62 : isStr Try.prog 62 = false := by kernel_rfl
@[simp] theorem tb_in62 : isInt Try.prog 62 = none := by kernel_rfl
@[simp] theorem tb_u862 : isU8 Try.prog 62 = false := by kernel_rfl
@[simp] theorem tb_bo62 : isBool Try.prog 62 = false := by kernel_rfl
@[simp] theorem tb_nk62 : nkT Try.prog 62 = some NK.func := by kernel_rfl
@[simp] theorem tb_by62 : (Try.prog.info? 62).map (·.bytes) = some 8 := by kernel_rfl
@[simp] theorem tb_un62 : (Try.prog.underlying 62).isSome = true := by kernel_rfl
@[simp] theorem tb_so62 : sizesOk Try.prog 62 = false := by kernel_rfl
@[simp] theorem tb_ze62 : zeroOf Try.prog 62 = some [AV.v Value.nilFunc] := by kernel_rfl
@[simp] theorem tb_fk62 : flatK Try.prog 40 62 = none := by kernel_rfl
@[simp] theorem tb_eg62 : Try.prog.eqGuardType Try.prog.depth 62 = false := by kernel_rfl
@[simp] theorem tb_sz63 : szOf Try.prog 63 = some 1 := by kernel_rfl
@[simp] theorem tb_ag63 : isAggT Try.prog 63 = some false := by kernel_rfl
@[simp] theorem tb_sl63 : isSl Try.prog 63 = none := by kernel_rfl
@[simp] theorem tb_ar63 : isArr Try.prog 63 = none := by kernel_rfl
@[simp] theorem tb_st63 : isStr Try.prog 63 = false := by kernel_rfl
@[simp] theorem tb_in63 : isInt Try.prog 63 = none := by kernel_rfl
@[simp] theorem tb_u863 : isU8 Try.prog 63 = false := by kernel_rfl
@[simp] theorem tb_bo63 : isBool Try.prog 63 = false := by kernel_rfl
@[simp] theorem tb_nk63 : nkT Try.prog 63 = some NK.func := by kernel_rfl
@[simp] theorem tb_by63 : (Try.prog.info? 63).map (·.bytes) = some 8 := by kernel_rfl
@[simp] theorem tb_un63 : (Try.prog.underlying 63).isSome = true := by kernel_rfl
@[simp] theorem tb_so63 : sizesOk Try.prog 63 = false := by kernel_rfl
@[simp] theorem tb_ze63 : zeroOf Try.prog 63 = some [AV.v Value.nilFunc] := by kernel_rfl
@[simp] theorem tb_fk63 : flatK Try.prog 40 63 = none := by kernel_rfl
@[simp] theorem tb_eg63 : Try.prog.eqGuardType Try.prog.depth 63 = false := by kernel_rfl
@[simp] theorem tb_sz64 : szOf Try.prog 64 = some 1 := by kernel_rfl
@[simp] theorem tb_ag64 : isAggT Try.prog 64 = some false := by kernel_rfl
@[simp] theorem tb_sl64 : isSl Try.prog 64 = none := by kernel_rfl
@[simp] theorem tb_ar64 : isArr Try.prog 64 = none := by kernel_rfl
@[simp] theorem tb_st64 : isStr Try.prog 64 = false := by kernel_rfl
@[simp] theorem tb_in64 : isInt Try.prog 64 = none := by kernel_rfl
@[simp] theorem tb_u864 : isU8 Try.prog 64 = false := by kernel_rfl
@[simp] theorem tb_bo64 : isBool Try.prog 64 = false := by kernel_rfl
@[simp] theorem tb_nk64 : nkT Try.prog 64 = none := by kernel_rfl
@[simp] theorem tb_by64 : (Try.prog.info? 64).map (·.bytes) = some 0 := by kernel_rfl
@[simp] theorem tb_un64 : (Try.prog.underlying 64).isSome = true := by kernel_rfl
@[simp] theorem tb_so64 : sizesOk Try.prog 64 = false := by kernel_rfl
@[simp] theorem tb_fk64 : flatK Try.prog 40 64 = none := by kernel_rfl
@[simp] theorem tb_eg64 : Try.prog.eqGuardType Try.prog.depth 64 = false := by kernel_rfl
@[simp] theorem tb_sz65 : szOf Try.prog 65 = some 1 := by kernel_rfl
@[simp] theorem tb_ag65 : isAggT Try.prog 65 = some false := by kernel_rfl
@[simp] theorem tb_sl65 : isSl Try.prog 65 = none := by kernel_rfl
@[simp] theorem tb_ar65 : isArr Try.prog 65 = none := by kernel_rfl
@[simp] theorem tb_st65 : isStr Try.prog 65 = false := by kernel_rfl
@[simp] theorem tb_in65 : isInt Try.prog 65 = none := by kernel_rfl
@[simp] theorem tb_u865 : isU8 Try.prog 65 = false := by kernel_rfl
@[simp] theorem tb_bo65 : isBool Try.prog 65 = false := by kernel_rfl
@[simp] theorem tb_nk65 : nkT Try.prog 65 = some NK.func := by kernel_rfl
@[simp] theorem tb_by65 : (Try.prog.info? 65).map (·.bytes) = some 8 := by kernel_rfl
@[simp] theorem tb_un65 : (Try.prog.underlying 65).isSome = true := by kernel_rfl
@[simp] theorem tb_so65 : sizesOk Try.prog 65 = false := by kernel_rfl
@[simp] theorem tb_ze65 : zeroOf Try.prog 65 = some [AV.v Value.nilFunc] := by kernel_rfl
@[simp] theorem tb_fk65 : flatK Try.prog 40 65 = none := by kernel_rfl
@[simp] theorem tb_eg65 : Try.prog.eqGuardType Try.prog.depth 65 = false := by kernel_rfl
@[simp] theorem tb_sz66 : szOf Try.prog 66 = some 1 := by kernel_rfl
@[simp] theorem tb_ag66 : isAggT Try.prog 66 = some false := by kernel_rfl
@[simp] theorem tb_sl66 : isSl Try.prog 66 = none := by kernel_rfl
@[simp] theorem tb_ar66 : isArr Try.prog 66 = none := by kernel_rfl
@[simp] theorem tb_st66 : isStr Try.prog 66 = false := by kernel_rfl
@[simp] theorem tb_in66 : isInt Try.prog 66 = none := by kernel_rfl
@[simp] theorem tb_u866 : isU8 Try.prog 66 = false := by kernel_rfl
@[simp] theorem tb_bo66 : isBool Try.prog 66 = false := by kernel_rfl
@[simp] theorem tb_nk66 : nkT Try.prog 66 = some NK.func := by kernel_rfl
@[simp] theorem tb_by66 : (Try.prog.info? 66).map (·.bytes) = some 8 := by kernel_rfl
@[simp] theorem tb_un66 : (Try.prog.underlying 66).isSome = true := by kernel_rfl
@[simp] theorem tb_so66 : sizesOk Try.prog 66 = false := by kernel_rfl
@[simp] theorem tb_ze66 : zeroOf Try.prog 66 = some [AV.v Value.nilFunc] := by kernel_rfl
@[simp] theorem tb_fk66 : flatK Try.prog 40 66 = none := by kernel_rfl
@[simp] theorem tb_eg66 : Try.prog.eqGuardType Try.prog.depth 66 = false := by kernel_rfl
@[simp] theorem tb_sz67 : szOf Try.prog 67 = some 1 := by kernel_rfl
@[simp] theorem tb_ag67 : isAggT Try.prog 67 = some false := by kernel_rfl
@[simp] theorem tb_sl67 : isSl Try.prog 67 = none := by kernel_rfl
@[simp] theorem tb_ar67 : isArr Try.prog 67 = none := by kernel_rfl
@[simp] theorem tb_st67 : isStr Try.prog 67 = false := by kernel_rfl
@[simp] theorem tb_in67 : isInt Try.prog 67 = none := by kernel_rfl
@[simp] theorem tb_u867 : isU8 Try.prog 67 = false := by kernel_rfl
@[simp] theorem tb_bo67 : isBool Try.prog 67 = false := by kernel_rfl
@[simp] theorem tb_nk67 : nkT Try.prog 67 = some NK.func := by kernel_rfl
@[simp] theorem tb_by67 : (Try.prog.info? 67).map (·.bytes) = some 8 := by kernel_rfl
@[simp] theorem tb_un67 : (Try.prog.underlying 67).isSome = true := by kernel_rfl
@[simp] theorem tb_so67 : sizesOk Try.prog 67 = false := by kernel_rfl
@[simp] theorem tb_ze67 : zeroOf Try.prog 67 = some [AV.v Value.nilFunc] := by kernel_rfl
@[simp] theorem tb_fk67 : flatK Try.prog 40 67 = none := by kernel_rfl
@[simp] theorem tb_eg67 : Try.prog.eqGuardType Try.prog.depth 67 = false := by kernel_rfl
@[simp] theorem tb_sz68 : szOf Try.prog 68 = some 36 := by kernel_rfl
@[simp] theorem tb_ag68 : isAggT Try.prog 68 = some true := by kernel_rfl
@[simp] theorem tb_sl68 : isSl Try.prog 68 = none := by kernel_rfl
@[simp] theorem tb_ar68 : isArr Try.prog 68 = none := by kernel_rfl
@[simp] theorem tb_st68 : isStr Try.prog 68 = false := by kernel_rfl
@[simp] theorem tb_in68 : isInt Try.prog 68 = none := by kernel_rfl
@[simp] theorem tb_u868 : isU8 Try.prog 68 = false := by kernel_rfl
@[simp] theorem tb_bo68 : isBool Try.prog 68 = false := by kernel_rfl
@[simp] theorem tb_nk68 : nkT Try.prog 68 = none := by kernel_rfl
@[simp] theorem tb_by68 : (Try.prog.info? 68).map (·.bytes) = some 38 := by kernel_rfl
@[simp] theorem tb_un68 : (Try.prog.underlying 68).isSome = true := by kernel_rfl
@[simp] theorem tb_so68 : sizesOk Try.prog 68 = true := by kernel_rfl
@[simp] theorem tb_ze68 : zeroOf Try.prog 68 = some [AV.v (Value.bool false), AV.v (Value.int IntKind.u8 (Int.ofNat 0)), AV.v (Value.int IntKind.u8 (Int.ofNat 0)), AV.v (Value.int IntKind.u8 (Int.ofNat 0)), AV.v (Value.int IntKind.u8 (Int.ofNat 0)), AV.v (Value.int IntKind.u8 (Int.ofNat 0)), AV.v (Value.int IntKind.u8 (Int.ofNat 0)), AV.v (Value.int IntKind.u8 (Int.ofNat 0)), AV.v (Value.int IntKind.u8 (Int.ofNat 0)), AV.v (Value.int IntKind.u8 (Int.ofNat 0)), AV.v (Value.int IntKind.u8 (Int.ofNat 0)), AV.v (Value.int IntKind.u8 (Int.ofNat 0)), AV.v (Value.int IntKind.u8 (Int.ofNat 0)), AV.v (Value.int IntKind.u8 (Int.ofNat 0)), AV.v (Value.int IntKind.u8 (Int.ofNat 0)), AV.v (Value.int IntKind.u8 (Int.ofNat 0)), AV.v (Value.int IntKind.u8 (Int.ofNat 0)), AV.v (Value.int IntKind.u8 (Int.ofNat 0)), AV.v (Value.int IntKind.u8 (Int.ofNat 0)), AV.v (Value.int IntKind.u8 (Int.ofNat 0)), AV.v (Value.int IntKind.u8 (Int.ofNat 0)), AV.v (Value.int IntKind.u8 (Int.ofNat 0)), AV.v (Value.int IntKind.u8 (Int.ofNat 0)), AV.v (Value.int IntKind.u8 (Int.ofNat 0)), AV.v (Value.int IntKind.u8 (Int.ofNat 0)), AV.v (Value.int IntKind.u8 (Int.ofNat 0)), AV.v (Value.int IntKind.u8 (Int.ofNat 0)), AV.v (Value.int IntKind.u8 (Int.ofNat 0)), AV.v (Value.int IntKind.u8 (Int.ofNat 0)), AV.v (Value.int IntKind.u8 (Int.ofNat 0)), AV.v (Value.int IntKind.u8 (Int.ofNat 0)), AV.v (Value.int IntKind.u8 (Int.ofNat 0)), AV.v (Value.int IntKind.u8 (Int.ofNat 0)), AV.v (Value.int IntKind.u8 (Int.ofNat 0)), AV.v (Value.int IntKind.u16 (Int.ofNat 0)), AV.v (Value.int IntKind.u16 (Int.ofNat 0))] := by kernel_rfl
@[simp] theorem tb_fk68 : flatK Try.prog 40 68 = some [LK.bool, LK.int, LK.int, LK.int, LK.int, LK.int, LK.int, LK.int, LK.int, LK.int, LK.int, LK.int, LK.int, LK.int, LK.int, LK.int, LK.int, LK.int, LK.int, LK.int, LK.int, LK.int, LK.int, LK.int, LK.int, LK.int, LK.int, LK.int, LK.int, LK.int, LK.int, LK.int, LK.int, LK.int, LK.int, LK.int] := by kernel_rfl
@[simp] theorem tb_eg68 : Try.prog.eqGuardType Try.prog.depth 68 = false := by kernel_rfl
@[simp] theorem tb_fd68_0 : fieldOf Try.prog 68 0 = some (0, 4) := by kernel_rfl
@[simp] theorem tb_fd68_1 : fieldOf Try.prog 68 1 = some (1, 5) := by kernel_rfl
@[simp] theorem tb_fd68_2 : fieldOf Try.prog 68 2 = some (2, 22) := by kernel_rfl
@[simp] theorem tb_fd68_3 : fieldOf Try.prog 68 3 = some (18, 22) := by kernel_rfl
@[simp] theorem tb_fd68_4 : fieldOf Try.prog 68 4 = some (34, 25) := by kernel_rfl
@[simp] theorem tb_fd68_5 : fieldOf Try.prog 68 5 = some (35, 25) := by kernel_rfl
@[simp] theorem tb_sz69 : szOf Try.prog 69 = some 36 := by kernel_rfl
@[simp] theorem tb_ag69 : isAggT Try.prog 69 = some true := by kernel_rfl
@[simp] theorem tb_sl69 : isSl Try.prog 69 = none := by kernel_rfl
@[simp] theorem tb_ar69 : isArr Try.prog 69 = none := by kernel_rfl
@[simp] theorem tb_st69 : isStr Try.prog 69 = false := by kernel_rfl
@[simp] theorem tb_in69 : isInt Try.prog 69 = none := by kernel_rfl
@[simp] theorem tb_u869 : isU8 Try.prog 69 = false := by kernel_rfl
@[simp] theorem tb_bo69 : isBool Try.prog 69 = false := by kernel_rfl
@[simp] theorem tb_nk69 : nkT Try.prog 69 = none := by kernel_rfl
@[simp] theorem tb_by69 : (Try.prog.info? 69).map (·.bytes) = some 38 := by kernel_rfl
@[simp] theorem tb_un69 : (Try.prog.underlying 69).isSome = true := by kernel_rfl
@[simp] theorem tb_so69 : sizesOk Try.prog 69 = true := by kernel_rfl
@[simp] theorem tb_ze69 : zeroOf Try.prog 69 = some [AV.v (Value.bool false), AV.v (Value.int IntKind.u8 (Int.ofNat 0)), AV.v (Value.int IntKind.u8 (Int.ofNat 0)), AV.v (Value.int IntKind.u8 (Int.ofNat 0)), AV.v (Value.int IntKind.u8 (Int.ofNat 0)), AV.v (Value.int IntKind.u8 (Int.ofNat 0)), AV.v (Value.int IntKind.u8 (Int.ofNat 0)), AV.v (Value.int IntKind.u8 (Int.ofNat 0)), AV.v (Value.int IntKind.u8 (Int.ofNat 0)), AV.v (Value.int IntKind.u8 (Int.ofNat 0)), AV.v (Value.int IntKind.u8 (Int.ofNat 0)), AV.v (Value.int IntKind.u8 (Int.ofNat 0)), AV.v (Value.int IntKind.u8 (Int.ofNat 0)), AV.v (Value.int IntKind.u8 (Int.ofNat 0)), AV.v (Value.int IntKind.u8 (Int.ofNat 0)), AV.v (Value.int IntKind.u8 (Int.ofNat 0)), AV.v (Value.int IntKind.u8 (Int.ofNat 0)), AV.v (Value.int IntKind.u8 (Int.ofNat 0)), AV.v (Value.int IntKind.u8 (Int.ofNat 0)), AV.v (Value.int IntKind.u8 (Int.ofNat 0)), AV.v (Value.int IntKind.u8 (Int.ofNat 0)), AV.v (Value.int IntKind.u8 (Int.ofNat 0)), AV.v (Value.int IntKind.u8 (Int.ofNat 0)), AV.v (Value.int IntKind.u8 (Int.ofNat 0)), AV.v (Value.int IntKind.u8 (Int.ofNat 0)), AV.v (Value.int IntKind.u8 (Int.ofNat 0)), AV.v (Value.int IntKind.u8 (Int.ofNat 0)), AV.v (Value.int IntKind.u8 (Int.ofNat 0)), AV.v (Value.int IntKind.u8 (Int.ofNat 0)), AV.v (Value.int IntKind.u8 (Int.ofNat 0)), AV.v (Value.int IntKind.u8 (Int.ofNat 0)), AV.v (Value.int IntKind.u8 (Int.ofNat 0)), AV.v (Value.int IntKind.u8 (Int.ofNat 0)), AV.v (Value.int IntKind.u8 (Int.ofNat 0)), AV.v (Value.int IntKind.u16 (Int.ofNat 0)), AV.v (Value.int IntKind.u16 (Int.ofNat 0))] := by kernel_rfl
@[simp] theorem tb_fk69 : flatK Try.prog 40 69 = some [LK.bool, LK.int, LK.int, LK.int, LK.int, LK.int, LK.int, LK.int, LK.int, LK.int, LK.int, LK.int, LK.int, LK.int, LK.int, LK.int, LK.int, LK.int, LK.int, LK.int, LK.int, LK.int, LK.int, LK.int, LK.int, LK.int, LK.int, LK.int, LK.int, LK.int, LK.int, LK.int, LK.int, LK.int, LK.int, LK.int] := by kernel_rfl
@[simp] theorem tb_eg69 : Try.prog.eqGuardType Try.prog.depth 69 = false := by kernel_rfl
@[simp] theorem tb_fd69_0 : fieldOf Try.prog 69 0 = some (0, 4) := by kernel_rfl
@[simp] theorem tb_fd69_1 : fieldOf Try.prog 69 1 = some (1, 5) := by kernel_rfl
@[simp] theorem tb_fd69_2 : fieldOf Try.prog 69 2 = some (2, 22) := by kernel_rfl
@[simp] theorem tb_fd69_3 : fieldOf Try.prog 69 3 = some (18, 22) := by kernel_rfl
@[simp] theorem tb_fd69_4 : fieldOf Try.prog 69 4 = some (34, 25) := by kernel_rfl
@[simp] theorem tb_fd69_5 : fieldOf Try.prog 69 5 = some (35, 25) := by kernel_rfl
@[simp] theorem tb_sz70 : szOf Try.prog 70 = some 20 := by kernel_rfl
@[simp] theorem tb_ag70 : isAggT Try.prog 70 = some true := by kernel_rfl
@[simp] theorem tb_sl70 : isSl Try.prog 70 = none := by kernel_rfl
@[simp] theorem tb_ar70 : isArr Try.prog 70 = some (20, 5) := by kernel_rfl
@[simp] theorem tb_st70 : isStr Try.prog 70 = false := by kernel_rfl
@[simp] theorem tb_in70 : isInt Try.prog 70 = none := by kernel_rfl
@[simp] theorem tb_u870 : isU8 Try.prog 70 = false := by kernel_rfl
@[simp] theorem tb_bo70 : isBool Try.prog 70 = false := by kernel_rfl
@[simp] theorem tb_nk70 : nkT Try.prog 70 = none := by kernel_rfl
@[simp] theorem tb_by70 : (Try.prog.info? 70).map (·.bytes) = some 20 := by kernel_rfl
@[simp] theorem tb_un70 : (Try.prog.underlying 70).isSome = true := by kernel_rfl
@[simp] theorem tb_so70 : sizesOk Try.prog 70 = true := by kernel_rfl
@[simp] theorem tb_ze70 : zeroOf Try.prog 70 = some [AV.v (Value.int IntKind.u8 (Int.ofNat 0)), AV.v (Value.int IntKind.u8 (Int.ofNat 0)), AV.v (Value.int IntKind.u8 (Int.ofNat 0)), AV.v (Value.int IntKind.u8 (Int.ofNat 0)), AV.v (Value.int IntKind.u8 (Int.ofNat 0)), AV.v (Value.int IntKind.u8 (Int.ofNat 0)), AV.v (Value.int IntKind.u8 (Int.ofNat 0)), AV.v (Value.int IntKind.u8 (Int.ofNat 0)), AV.v (Value.int IntKind.u8 (Int.ofNat 0)), AV.v (Value.int IntKind.u8 (Int.ofNat 0)), AV.v (Value.int IntKind.u8 (Int.ofNat 0)), AV.v (Value.int IntKind.u8 (Int.ofNat 0)), AV.v (Value.int IntKind.u8 (Int.ofNat 0)), AV.v (Value.int IntKind.u8 (Int.ofNat 0)), AV.v (Value.int IntKind.u8 (Int.ofNat 0)), AV.v (Value.int IntKind.u8 (Int.ofNat 0)), AV.v (Value.int IntKind.u8 (Int.ofNat 0)), AV.v (Value.int IntKind.u8 (Int.ofNat 0)), AV.v (Value.int IntKind.u8 (Int.ofNat 0)), AV.v (Value.int IntKind.u8 (Int.ofNat 0))] := by kernel_rfl
@[simp] theorem tb_fk70 : flatK Try.prog 40 70 = some [LK.int, LK.int, LK.int, LK.int, LK.int, LK.int, LK.int, LK.int, LK.int, LK.int, LK.int, LK.int, LK.int, LK.int, LK.int, LK.int, LK.int, LK.int, LK.int, LK.int] := by kernel_rfl
@[simp] theorem tb_eg70 : Try.prog.eqGuardType Try.prog.depth 70 = false := by kernel_rfl
@[simp] theorem tb_sz71 : szOf Try.prog 71 = some 1 := by kernel_rfl
@[simp] theorem tb_ag71 : isAggT Try.prog 71 = some false := by kernel_rfl
@[simp] theorem tb_sl71 : isSl Try.prog 71 = none := by kernel_rfl
@[simp] theorem tb_ar71 : isArr Try.prog 71 = none := by kernel_rfl
@[simp] theorem tb_st71 : isStr Try.prog 71 = false := by kernel_rfl
@[simp] theorem tb_in71 : isInt Try.prog 71 = some IntKind.u64 := by kernel_rfl
@[simp] theorem tb_u871 : isU8 Try.prog 71 = false := by kernel_rfl
@[simp] theorem tb_bo71 : isBool Try.prog 71 = false := by kernel_rfl
@[simp] theorem tb_nk71 : nkT Try.prog 71 = none := by kernel_rfl
@[simp] theorem tb_by71 : (Try.prog.info? 71).map (·.bytes) = some 8 := by kernel_rfl
@[simp] theorem tb_un71 : (Try.prog.underlying 71).isSome = true := by kernel_rfl
@[simp] theorem tb_so71 : sizesOk Try.prog 71 = false := by kernel_rfl
@[simp] theorem tb_ze71 : zeroOf Try.prog 71 = some [AV.v (Value.int IntKind.u64 (Int.ofNat 0))] := by kernel_rfl
@[simp] theorem tb_fk71 : flatK Try.prog 40 71 = some [LK.int] := by kernel_rfl
@[simp] theorem tb_eg71 : Try.prog.eqGuardType Try.prog.depth 71 = false := by kernel_rfl
@[simp] theorem tb_sz72 : szOf Try.prog 72 = some 1 := by kernel_rfl
@[simp] theorem tb_ag72 : isAggT Try.prog 72 = some false := by kernel_rfl
@[simp] theorem tb_sl72 : isSl Try.prog 72 = none := by kernel_rfl
@[simp] theorem tb_ar72 : isArr Try.prog 72 = none := by kernel_rfl
@[simp] theorem tb_st72 : isStr Try.prog 72 = false := by kernel_rfl
@[simp] theorem tb_in72 : isInt Try.prog 72 = none := by kernel_rfl
@[simp] theorem tb_u872 : isU8 Try.prog 72 = false := by kernel_rfl
@[simp] theorem tb_bo72 : isBool Try.prog 72 = false := by kernel_rfl
@[simp] theorem tb_nk72 : nkT Try.prog 72 = none := by kernel_rfl
@[simp] theorem tb_by72 : (Try.prog.info? 72).map (·.bytes) = some 0 := by kernel_rfl
@[simp] theorem tb_un72 : (Try.prog.underlying 72).isSome = true := by kernel_rfl
@[simp] theorem tb_so72 : sizesOk Try.prog 72 = false := by kernel_rfl
@[simp] theorem tb_fk72 : flatK Try.prog 40 72 = none := by kernel_rfl
@[simp] theorem tb_eg72 : Try.prog.eqGuardType Try.prog.depth 72 = false := by kernel_rfl
@[simp] theorem tb_sz73 : szOf Try.prog 73 = some 1 := by kernel_rfl
@[simp] theorem tb_ag73 : isAggT Try.prog 73 = some false := by kernel_rfl
@[simp] theorem tb_sl73 : isSl Try.prog 73 = none := by kernel_rfl
@[simp] theorem tb_ar73 : isArr Try.prog 73 = none := by kernel_rfl
@[simp] theorem tb_st73 : isStr Try.prog 73 = false := by kernel_rfl
@[simp] theorem tb_in73 : isInt Try.prog 73 = none := by kernel_rfl
@[simp] theorem tb_u873 : isU8 Try.prog 73 = false := by kernel_rfl
@[simp] theorem tb_bo73 : isBool Try.prog 73 = false := by kernel_rfl
@[simp] theorem tb_nk73 : nkT Try.prog 73 = some NK.func := by kernel_rfl
@[simp] theorem tb_by73 : (Try.prog.info? 73).map (·.bytes) = some 8 := by kernel_rfl
@[simp] theorem tb_un73 : (Try.prog.underlying 73).isSome = true := by kernel_rfl
@[simp] theorem tb_so73 : sizesOk Try.prog 73 = false := by kernel_rfl
@[simp] theorem tb_ze73 : zeroOf Try.prog 73 = some [AV.v Value.nilFunc] := by kernel_rfl
@[simp] theorem tb_fk73 : flatK Try.prog 40 73 = none := by kernel_rfl
@[simp] theorem tb_eg73 : Try.prog.eqGuardType Try.prog.depth 73 = false := by kernel_rfl
@[simp] theorem tb_sz74 : szOf Try.prog 74 = some 1 := by kernel_rfl
@[simp] theorem tb_ag74 : isAggT Try.prog 74 = some false := by kernel_rfl
@[simp] theorem tb_sl74 : isSl Try.prog 74 = none := by kernel_rfl
@[simp] theorem tb_ar74 : isArr Try.prog 74 = none := by kernel_rfl
@[simp] theorem tb_st74 : isStr Try.prog 74 = false := by kernel_rfl
@[simp] theorem tb_in74 : isInt Try.prog 74 = none := by kernel_rfl
@[simp] theorem tb_u874 : isU8 Try.prog 74 = false := by kernel_rfl
@[simp] theorem tb_bo74 : isBool Try.prog 74 = false := by kernel_rfl
@[simp] theorem tb_nk74 : nkT Try.prog 74 = some NK.func := by kernel_rfl
@[simp] theorem tb_by74 : (Try.prog.info? 74).map (·.bytes) = some 8 := by kernel_rfl
@[simp] theorem tb_un74 : (Try.prog.underlying 74).isSome = true := by kernel_rfl
@[simp] theorem tb_so74 : sizesOk Try.prog 74 = false := by kernel_rfl
@[simp] theorem tb_ze74 : zeroOf Try.prog 74 = some [AV.v Value.nilFunc] := by kernel_rfl
@[simp] theorem tb_fk74 : flatK Try.prog 40 74 = none := by kernel_rfl
@[simp] theorem tb_eg74 : Try.prog.eqGuardType Try.prog.depth 74 = false := by kernel_rfl
@[simp] theorem tb_sz75 : szOf Try.prog 75 = some 38 := by kernel_rfl
@[simp] theorem tb_ag75 : isAggT Try.prog 75 = some true := by kernel_rfl
@[simp] theorem tb_sl75 : isSl Try.prog 75 = none := by kernel_rfl
@[simp] theorem tb_ar75 : isArr Try.prog 75 = none := by kernel_rfl
@[simp] theorem tb_st75 : isStr Try.prog 75 = false := by kernel_rfl
@[simp] theorem tb_in75 : isInt Try.prog 75 = none := by kernel_rfl
@[simp] theorem tb_u875 : isU8 Try.prog 75 = false := by kernel_rfl
@[simp] theorem tb_bo75 : isBool Try.prog 75 = false := by kernel_rfl
@[simp] theorem tb_nk75 : nkT Try.prog 75 = none := by kernel_rfl
@[simp] theorem tb_by75 : (Try.prog.info? 75).map (·.bytes) = some 40 := by kernel_rfl
@[simp] theorem tb_un75 : (Try.prog.underlying 75).isSome = true := by kernel_rfl
@[simp] theorem tb_so75 : sizesOk Try.prog 75 = true := by kernel_rfl
@[simp] theorem tb_ze75 : zeroOf Try.prog 75 = some [AV.v (Value.int IntKind.u8 (Int.ofNat 0)), AV.v (Value.int IntKind.u8 (Int.ofNat 0)), AV.v (Value.bool false), AV.v (Value.int IntKind.u8 (Int.ofNat 0)), AV.v (Value.int IntKind.u8 (Int.ofNat 0)), AV.v (Value.int IntKind.u8 (Int.ofNat 0)), AV.v (Value.int IntKind.u8 (Int.ofNat 0)), AV.v (Value.int IntKind.u8 (Int.ofNat 0)), AV.v (Value.int IntKind.u8 (Int.ofNat 0)), AV.v (Value.int IntKind.u8 (Int.ofNat 0)), AV.v (Value.int IntKind.u8 (Int.ofNat 0)), AV.v (Value.int IntKind.u8 (Int.ofNat 0)), AV.v (Value.int IntKind.u8 (Int.ofNat 0)), AV.v (Value.int IntKind.u8 (Int.ofNat 0)), AV.v (Value.int IntKind.u8 (Int.ofNat 0)), AV.v (Value.int IntKind.u8 (Int.ofNat 0)), AV.v (Value.int IntKind.u8 (Int.ofNat 0)), AV.v (Value.int IntKind.u8 (Int.ofNat 0)), AV.v (Value.int IntKind.u8 (Int.ofNat 0)), AV.v (Value.int IntKind.u8 (Int.ofNat 0)), AV.v (Value.int IntKind.u8 (Int.ofNat 0)), AV.v (Value.int IntKind.u8 (Int.ofNat 0)), AV.v (Value.int IntKind.u8 (Int.ofNat 0)), AV.v (Value.int IntKind.u8 (Int.ofNat 0)), AV.v (Value.int IntKind.u8 (Int.ofNat 0)), AV.v (Value.int IntKind.u8 (Int.ofNat 0)), AV.v (Value.int IntKind.u8 (Int.ofNat 0)), AV.v (Value.int IntKind.u8 (Int.ofNat 0)), AV.v (Value.int IntKind.u8 (Int.ofNat 0)), AV.v (Value.int IntKind.u8 (Int.ofNat 0)), AV.v (Value.int IntKind.u8 (Int.ofNat 0)), AV.v (Value.int IntKind.u8 (Int.ofNat 0)), AV.v (Value.int IntKind.u8 (Int.ofNat 0)), AV.v (Value.int IntKind.u8 (Int.ofNat 0)), AV.v (Value.int IntKind.u8 (Int.ofNat 0)), AV.v (Value.int IntKind.u8 (Int.ofNat 0)), AV.v (Value.int IntKind.u16 (Int.ofNat 0)), AV.v (Value.int IntKind.u16 (Int.ofNat 0))] := by kernel_rfl
@[simp] theorem tb_fk75 : flatK Try.prog 40 75 = some [LK.int, LK.int, LK.bool, LK.int, LK.int, LK.int, LK.int, LK.int, LK.int, LK.int, LK.int, LK.int, LK.int, LK.int, LK.int, LK.int, LK.int, LK.int, LK.int, LK.int, LK.int, LK.int, LK.int, LK.int, LK.int, LK.int, LK.int, LK.int, LK.int, LK.int, LK.int, LK.int, LK.int, LK.int, LK.int, LK.int, LK.int, LK.int] := by kernel_rfl
@[simp] theorem tb_eg75 : Try.prog.eqGuardType Try.prog.depth 75 = false := by kernel_rfl
@[simp] theorem tb_fd75_0 : fieldOf Try.prog 75 0 = some (0, 5) := by kernel_rfl
@[simp] theorem tb_fd75_1 : fieldOf Try.prog 75 1 = some (1, 5) := by kernel_rfl
@[simp] theorem tb_fd75_2 : fieldOf Try.prog 75 2 = some (2, 69) := by kernel_rfl
@[simp] theorem tb_sz76 : szOf Try.prog 76 = some 38 := by kernel_rfl
@[simp] theorem tb_ag76 : isAggT Try.prog 76 = some true := by kernel_rfl
@[simp] theorem tb_sl76 : isSl Try.prog 76 = none := by kernel_rfl
@[simp] theorem tb_ar76 : isArr Try.prog 76 = none := by kernel_rfl
@[simp] theorem tb_st76 : isStr Try.prog 76 = false := by kernel_rfl
@[simp] theorem tb_in76 : isInt Try.prog 76 = none := by kernel_rfl
@[simp] theorem tb_u876 : isU8 Try.prog 76 = false := by kernel_rfl
@[simp] theorem tb_bo76 : isBool Try.prog 76 = false := by kernel_rfl
@[simp] theorem tb_nk76 : nkT Try.prog 76 = none := by kernel_rfl
@[simp] theorem tb_by76 : (Try.prog.info? 76).map (·.bytes) = some 40 := by kernel_rfl
@[simp] theorem tb_un76 : (Try.prog.underlying 76).isSome = true := by kernel_rfl
@[simp] theorem tb_so76 : sizesOk Try.prog 76 = true := by kernel_rfl
@[simp] theorem tb_ze76 : zeroOf Try.prog 76 = some [AV.v (Value.int IntKind.u8 (Int.ofNat 0)), AV.v (Value.int IntKind.u8 (Int.ofNat 0)), AV.v (Value.bool false), AV.v (Value.int IntKind.u8 (Int.ofNat 0)), AV.v (Value.int IntKind.u8 (Int.ofNat 0)), AV.v (Value.int IntKind.u8 (Int.ofNat 0)), AV.v (Value.int IntKind.u8 (Int.ofNat 0)), AV.v (Value.int IntKind.u8 (Int.ofNat 0)), AV.v (Value.int IntKind.u8 (Int.ofNat 0)), AV.v (Value.int IntKind.u8 (Int.ofNat 0)), AV.v (Value.int IntKind.u8 (Int.ofNat 0)), AV.v (Value.int IntKind.u8 (Int.ofNat 0)), AV.v (Value.int IntKind.u8 (Int.ofNat 0)), AV.v (Value.int IntKind.u8 (Int.ofNat 0)), AV.v (Value.int IntKind.u8 (Int.ofNat 0)), AV.v (Value.int IntKind.u8 (Int.ofNat 0)), AV.v (Value.int IntKind.u8 (Int.ofNat 0)), AV.v (Value.int IntKind.u8 (Int.ofNat 0)), AV.v (Value.int IntKind.u8 (Int.ofNat 0)), AV.v (Value.int IntKind.u8 (Int.ofNat 0)), AV.v (Value.int IntKind.u8 (Int.ofNat 0)), AV.v (Value.int IntKind.u8 (Int.ofNat 0)), AV.v (Value.int IntKind.u8 (Int.ofNat 0)), AV.v (Value.int IntKind.u8 (Int.ofNat 0)), AV.v (Value.int IntKind.u8 (Int.ofNat 0)), AV.v (Value.int IntKind.u8 (Int.ofNat 0)), AV.v (Value.int IntKind.u8 (Int.ofNat 0)), AV.v (Value.int IntKind.u8 (Int.ofNat 0)), AV.v (Value.int IntKind.u8 (Int.ofNat 0)), AV.v (Value.int IntKind.u8 (Int.ofNat 0)), AV.v (Value.int IntKind.u8 (Int.ofNat 0)), AV.v (Value.int IntKind.u8 (Int.ofNat 0)), AV.v (Value.int IntKind.u8 (Int.ofNat 0)), AV.v (Value.int IntKind.u8 (Int.ofNat 0)), AV.v (Value.int IntKind.u8 (Int.ofNat 0)), AV.v (Value.int IntKind.u8 (Int.ofNat 0)), AV.v (Value.int IntKind.u16 (Int.ofNat 0)), AV.v (Value.int IntKind.u16 (Int.ofNat 0))] := by kernel_rfl
@[simp] theorem tb_fk76 : flatK Try.prog 40 76 = some [LK.int, LK.int, LK.bool, LK.int, LK.int, LK.int, LK.int, LK.int, LK.int, LK.int, LK.int, LK.int, LK.int, LK.int, LK.int, LK.int, LK.int, LK.int, LK.int, LK.int, LK.int, LK.int, LK.int, LK.int, LK.int, LK.int, LK.int, LK.int, LK.int, LK.int, LK.int, LK.int, LK.int, LK.int, LK.int, LK.int, LK.int, LK.int] := by kernel_rfl
@[simp] theorem tb_eg76 : Try.prog.eqGuardType Try.prog.depth 76 = false := by kernel_rfl
@[simp] theorem tb_fd76_0 : fieldOf Try.prog 76 0 = some (0, 5) := by kernel_rfl
@[simp] theorem tb_fd76_1 : fieldOf Try.prog 76 1 = some (1, 5) := by kernel_rfl
@[simp] theorem tb_fd76_2 : fieldOf Try.prog 76 2 = some (2, 69) := by kernel_rfl
@[simp] theorem tb_sz77 : szOf Try.prog 77 = some 1 := by kernel_rfl
@[simp] theorem tb_ag77 : isAggT Try.prog 77 = some false := by kernel_rfl
@[simp] theorem tb_sl77 : isSl Try.prog 77 = none := by kernel_rfl
@[simp] theorem tb_ar77 : isArr Try.prog 77 = none := by kernel_rfl
@[simp] theorem tb_st77 : isStr Try.prog 77 = false := by kernel_rfl
@[simp] theorem tb_in77 : isInt Try.prog 77 = none := by kernel_rfl
@[simp] theorem tb_u877 : isU8 Try.prog 77 = false := by kernel_rfl
@[simp] theorem tb_bo77 : isBool Try.prog 77 = false := by kernel_rfl
@[simp] theorem tb_nk77 : nkT Try.prog 77 = none := by kernel_rfl
@[simp] theorem tb_by77 : (Try.prog.info? 77).map (·.bytes) = some 0 := by kernel_rfl
@[simp] theorem tb_un77 : (Try.prog.underlying 77).isSome = true := by kernel_rfl
@[simp] theorem tb_so77 : sizesOk Try.prog 77 = false := by kernel_rfl
@[simp] theorem tb_fk77 : flatK Try.prog 40 77 = none := by kernel_rfl
@[simp] theorem tb_eg77 : Try.prog.eqGuardType Try.prog.depth 77 = false := by kernel_rfl
@[simp] theorem tb_sz78 : szOf Try.prog 78 = some 1 := by kernel_rfl
@[simp] theorem tb_ag78 : isAggT Try.prog 78 = some false := by kernel_rfl
@[simp] theorem tb_sl78 : isSl Try.prog 78 = none := by kernel_rfl
@[simp] theorem tb_ar78 : isArr Try.prog 78 = none := by kernel_rfl
@[simp] theorem tb_st78 : isStr Try.prog 78 = false := by kernel_rfl
@[simp] theorem tb_in78 : isInt Try.prog 78 = none := by kernel_rfl
@[simp] theorem tb_u878 : isU8 Try.prog 78 = false := by kernel_rfl
@[simp] theorem tb_bo78 : isBool Try.prog 78 = false := by kernel_rfl
@[simp] theorem tb_nk78 : nkT Try.prog 78 = some NK.func := by kernel_rfl
@[simp] theorem tb_by78 : (Try.prog.info? 78).map (·.bytes) = some 8 := by kernel_rfl
@[simp] theorem tb_un78 : (Try.prog.underlying 78).isSome = true := by kernel_rfl
@[simp] theorem tb_so78 : sizesOk Try.prog 78 = false := by kernel_rfl
@[simp] theorem tb_ze78 : zeroOf Try.prog 78 = some [AV.v Value.nilFunc] := by kernel_rfl
@[simp] theorem tb_fk78 : flatK Try.prog 40 78 = none := by kernel_rfl
@[simp] theorem tb_eg78 : Try.prog.eqGuardType Try.prog.depth 78 = false := by kernel_rfl
@[simp] theorem tb_sz79 : szOf Try.prog 79 = some 1 := by kernel_rfl
@[simp] theorem tb_ag79 : isAggT Try.prog 79 = some false := by kernel_rfl
@[simp] theorem tb_sl79 : isSl Try.prog 79 = none := by kernel_rfl
@[simp] theorem tb_ar79 : isArr Try.prog 79 = none := by kernel_rfl
@[simp] theorem tb_st79 : isStr Try.prog 79 = false := by kernel_rfl
@[simp] theorem tb_in79 : isInt Try.prog 79 = none := by kernel_rfl
@[simp] theorem tb_u879 : isU8 Try.prog 79 = false := by kernel_rfl
@[simp] theorem tb_bo79 : isBool Try.prog 79 = false := by kernel_rfl
@[simp] theorem tb_nk79 : nkT Try.prog 79 = some NK.func := by kernel_rfl
@[simp] theorem tb_by79 : (Try.prog.info? 79).map (·.bytes) = some 8 := by kernel_rfl
@[simp] theorem tb_un79 : (Try.prog.underlying 79).isSome = true := by kernel_rfl
@[simp] theorem tb_so79 : sizesOk Try.prog 79 = false := by kernel_rfl
@[simp] theorem tb_ze79 : zeroOf Try.prog 79 = some [AV.v Value.nilFunc] := by kernel_rfl
@[simp] theorem tb_fk79 : flatK Try.prog 40 79 = none := by kernel_rfl
@[simp] theorem tb_eg79 : Try.prog.eqGuardType Try.prog.depth 79 = false := by kernel_rfl
@[simp] theorem tb_sz80 : szOf Try.prog 80 = some 4 := by kernel_rfl
@[simp] theorem tb_ag80 : isAggT Try.prog 80 = some true := by kernel_rfl
@[simp] theorem tb_sl80 : isSl Try.prog 80 = none := by kernel_rfl
@[simp] theorem tb_ar80 : isArr Try.prog 80 = some (4, 5) := by kernel_rfl
@[simp] theorem tb_st80 : isStr Try.prog 80 = false := by kernel_rfl
@[simp] theorem tb_in80 : isInt Try.prog 80 = none := by kernel_rfl
@[simp] theorem tb_u880 : isU8 Try.prog 80 = false := by kernel_rfl
@[simp] theorem tb_bo80 : isBool Try.prog 80 = false := by kernel_rfl
@[simp] theorem tb_nk80 : nkT Try.prog 80 = none := by kernel_rfl
@[simp] theorem tb_by80 : (Try.prog.info? 80).map (·.bytes) = some 4 := by kernel_rfl
@[simp] theorem tb_un80 : (Try.prog.underlying 80).isSome = true := by kernel_rfl
@[simp] theorem tb_so80 : sizesOk Try.prog 80 = true := by kernel_rfl
@[simp] theorem tb_ze80 : zeroOf Try.prog 80 = some [AV.v (Value.int IntKind.u8 (Int.ofNat 0)), AV.v (Value.int IntKind.u8 (Int.ofNat 0)), AV.v (Value.int IntKind.u8 (Int.ofNat 0)), AV.v (Value.int IntKind.u8 (Int.ofNat 0))] := by kernel_rfl
@[simp] theorem tb_fk80 : flatK Try.prog 40 80 = some [LK.int, LK.int, LK.int, LK.int] := by kernel_rfl
@[simp] theorem tb_eg80 : Try.prog.eqGuardType Try.prog.depth 80 = false := by kernel_rfl
@[simp] theorem tb_sz81 : szOf Try.prog 81 = some 1 := by kernel_rfl
@[simp] theorem tb_ag81 : isAggT Try.prog 81 = some false := by kernel_rfl
@[simp] theorem tb_sl81 : isSl Try.prog 81 = none := by kernel_rfl
@[simp] theorem tb_ar81 : isArr Try.prog 81 = none := by kernel_rfl
@[simp] theorem tb_st81 : isStr Try.prog 81 = false := by kernel_rfl
@[simp] theorem tb_in81 : isInt Try.prog 81 = none := by kernel_rfl
@[simp] theorem tb_u881 : isU8 Try.prog 81 = false := by kernel_rfl
@[simp] theorem tb_bo81 : isBool Try.prog 81 = false := by kernel_rfl
@[simp] theorem tb_nk81 : nkT Try.prog 81 = some NK.func := by kernel_rfl
@[simp] theorem tb_by81 : (Try.prog.info? 81).map (·.bytes) = some 8 := by kernel_rfl
@[simp] theorem tb_un81 : (Try.prog.underlying 81).isSome = true := by kernel_rfl
@[simp] theorem tb_so81 : sizesOk Try.prog 81 = false := by kernel_rfl
@[simp] theorem tb_ze81 : zeroOf Try.prog 81 = some [AV.v Value.nilFunc] := by kernel_rfl
@[simp] theorem tb_fk81 : flatK Try.prog 40 81 = none := by kernel_rfl
@[simp] theorem tb_eg81 : Try.prog.eqGuardType Try.prog.depth 81 = false := by kernel_rfl
@[simp] theorem tb_sz82 : szOf Try.prog 82 = some 1 := by kernel_rfl
@[simp] theorem tb_ag82 : isAggT Try.prog 82 = some false := by kernel_rfl
@[simp] theorem tb_sl82 : isSl Try.prog 82 = none := by kernel_rfl
@[simp] theorem tb_ar82 : isArr Try.prog 82 = none := by kernel_rfl
@[simp] theorem tb_st82 : isStr Try.prog 82 = false := by kernel_rfl
@[simp] theorem tb_in82 : isInt Try.prog 82 = none := by kernel_rfl
@[simp] theorem tb_u882 : isU8 Try.prog 82 = false := by kernel_rfl
@[simp] theorem tb_bo82 : isBool Try.prog 82 = false := by kernel_rfl
@[simp] theorem tb_nk82 : nkT Try.prog 82 = some NK.func := by kernel_rfl
@[simp] theorem tb_by82 : (Try.prog.info? 82).map (·.bytes) = some 8 := by kernel_rfl
@[simp] theorem tb_un82 : (Try.prog.underlying 82).isSome = true := by kernel_rfl
@[simp] theorem tb_so82 : sizesOk Try.prog 82 = false := by kernel_rfl
@[simp] theorem tb_ze82 : zeroOf Try.prog 82 = some [AV.v Value.nilFunc] := by kernel_rfl
@[simp] theorem tb_fk82 : flatK Try.prog 40 82 = none := by kernel_rfl
@[simp] theorem tb_eg82 : Try.prog.eqGuardType Try.prog.depth 82 = false := by kernel_rfl
@[simp] theorem tb_sz83 : szOf Try.prog 83 = some 1 := by kernel_rfl
@[simp] theorem tb_ag83 : isAggT Try.prog 83 = some false := by kernel_rfl
@[simp] theorem tb_sl83 : isSl Try.prog 83 = none := by kernel_rfl
@[simp] theorem tb_ar83 : isArr Try.prog 83 = none := by kernel_rfl
@[simp] theorem tb_st83 : isStr Try.prog 83 = false := by kernel_rfl
@[simp] theorem tb_in83 : isInt Try.prog 83 = none := by kernel_rfl
@[simp] theorem tb_u883 : isU8 Try.prog 83 = false := by kernel_rfl
@[simp] theorem tb_bo83 : isBool Try.prog 83 = false := by kernel_rfl
@[simp] theorem tb_nk83 : nkT Try.prog 83 = some NK.func := by kernel_rfl
@[simp] theorem tb_by83 : (Try.prog.info? 83).map (·.bytes) = some 8 := by kernel_rfl
@[simp] theorem tb_un83 : (Try.prog.underlying 83).isSome = true := by kernel_rfl
@[simp] theorem tb_so83 : sizesOk Try.prog 83 = false := by kernel_rfl
@[simp] theorem tb_ze83 : zeroOf Try.prog 83 = some [AV.v Value.nilFunc] := by kernel_rfl
@[simp] theorem tb_fk83 : flatK Try.prog 40 83 = none := by kernel_rfl
@[simp] theorem tb_eg83 : Try.prog.eqGuardType Try.prog.depth 83 = false := by kernel_rfl
@[simp] theorem tb_sz84 : szOf Try.prog 84 = some 1 := by kernel_rfl
@[simp] theorem tb_ag84 : isAggT Try.prog 84 = some false := by kernel_rfl
@[simp] theorem tb_sl84 : isSl Try.prog 84 = none := by kernel_rfl
@[simp] theorem tb_ar84 : isArr Try.prog 84 = none := by kernel_rfl
@[simp] theorem tb_st84 : isStr Try.prog 84 = false := by kernel_rfl
@[simp] theorem tb_in84 : isInt Try.prog 84 = none := by kernel_rfl
@[simp] theorem tb_u884 : isU8 Try.prog 84 = false := by kernel_rfl
@[simp] theorem tb_bo84 : isBool Try.prog 84 = false := by kernel_rfl
@[simp] theorem tb_nk84 : nkT Try.prog 84 = some NK.func := by kernel_rfl
@[simp] theorem tb_by84 : (Try.prog.info? 84).map (·.bytes) = some 8 := by kernel_rfl
@[simp] theorem tb_un84 : (Try.prog.underlying 84).isSome = true := by kernel_rfl
@[simp] theorem tb_so84 : sizesOk Try.prog 84 = false := by kernel_rfl
@[simp] theorem tb_ze84 : zeroOf Try.prog 84 = some [AV.v Value.nilFunc] := by kernel_rfl
@[simp] theorem tb_fk84 : flatK Try.prog 40 84 = none := by kernel_rfl
@[simp] theorem tb_eg84 : Try.prog.eqGuardType Try.prog.depth 84 = false := by kernel_rfl
@[simp] theorem tb_sz85 : szOf Try.prog 85 = some 1 := by kernel_rfl
@[simp] theorem tb_ag85 : isAggT Try.prog 85 = some false := by kernel_rfl
@[simp] theorem tb_sl85 : isSl Try.prog 85 = none := by kernel_rfl
@[simp] theorem tb_ar85 : isArr Try.prog 85 = none := by kernel_rfl
@[simp] theorem tb_st85 : isStr Try.prog 85 = false := by kernel_rfl
@[simp] theorem tb_in85 : isInt Try.prog 85 = none := by kernel_rfl
@[simp] theorem tb_u885 : isU8 Try.prog 85 = false := by kernel_rfl
@[simp] theorem tb_bo85 : isBool Try.prog 85 = false := by kernel_rfl
@[simp] theorem tb_nk85 : nkT Try.prog 85 = some NK.func := by kernel_rfl
@[simp] theorem tb_by85 : (Try.prog.info? 85).map (·.bytes) = some 8 := by kernel_rfl
@[simp] theorem tb_un85 : (Try.prog.underlying 85).isSome = true := by kernel_rfl
@[simp] theorem tb_so85 : sizesOk Try.prog 85 = false := by kernel_rfl
@[simp] theorem tb_ze85 : zeroOf Try.prog 85 = some [AV.v Value.nilFunc] := by kernel_rfl
@[simp] theorem tb_fk85 : flatK Try.prog 40 85 = none := by kernel_rfl
@[simp] theorem tb_eg85 : Try.prog.eqGuardType Try.prog.depth 85 = false := by kernel_rfl
@[simp] theorem tb_sz86 : szOf Try.prog 86 = some 1 := by kernel_rfl
@[simp] theorem tb_ag86 : isAggT Try.prog 86 = some false := by kernel_rfl
@[simp] theorem tb_sl86 : isSl Try.prog 86 = none := by kernel_rfl
@[simp] theorem tb_ar86 : isArr Try.prog 86 = none := by kernel_rfl
@[simp] theorem tb_st86 : isStr Try.prog 86 = false := by kernel_rfl
@[simp] theorem tb_in86 : isInt Try.prog 86 = none := by kernel_rfl
@[simp] theorem tb_u886 : isU8 Try.prog 86 = false := by kernel_rfl
@[simp] theorem tb_bo86 : isBool Try.prog 86 = false := by kernel_rfl
@[simp] theorem tb_nk86 : nkT Try.prog 86 = some NK.func := by kernel_rfl
@[simp] theorem tb_by86 : (Try.prog.info? 86).map (·.bytes) = some 8 := by kernel_rfl
@[simp] theorem tb_un86 : (Try.prog.underlying 86).isSome = true := by kernel_rfl
@[simp] theorem tb_so86 : sizesOk Try.prog 86 = false := by kernel_rfl
@[simp] theorem tb_ze86 : zeroOf Try.prog 86 = some [AV.v Value.nilFunc] := by kernel_rfl
@[simp] theorem tb_fk86 : flatK Try.prog 40 86 = none := by kernel_rfl
@[simp] theorem tb_eg86 : Try.prog.eqGuardType Try.prog.depth 86 = false := by kernel_rfl
@[simp] theorem tb_sz87 : szOf Try.prog 87 = some 1 := by kernel_rfl
@[simp] theorem tb_ag87 : isAggT Try.prog 87 = some false := by kernel_rfl
@[simp] theorem tb_sl87 : isSl Try.prog 87 = none := by kernel_rfl
@[simp] theorem tb_ar87 : isArr Try.prog 87 = none := by kernel_rfl
@[simp] theorem tb_st87 : isStr Try.prog 87 = false := by kernel_rfl
@[simp] theorem tb_in87 : isInt Try.prog 87 = none := by kernel_rfl
@[simp] theorem tb_u887 : isU8 Try.prog 87 = false := by kernel_rfl
@[simp] theorem tb_bo87 : isBool Try.prog 87 = false := by kernel_rfl
@[simp] theorem tb_nk87 : nkT Try.prog 87 = some NK.func := by kernel_rfl
@[simp] theorem tb_by87 : (Try.prog.info? 87).map (·.bytes) = some 8 := by kernel_rfl
@[simp] theorem tb_un87 : (Try.prog.underlying 87).isSome = true := by kernel_rfl
@[simp] theorem tb_so87 : sizesOk Try.prog 87 = false := by kernel_rfl
@[simp] theorem tb_ze87 : zeroOf Try.prog 87 = some [AV.v Value.nilFunc] := by kernel_rfl
@[simp] theorem tb_fk87 : flatK Try.prog 40 87 = none := by kernel_rfl
@[simp] theorem tb_eg87 : Try.prog.eqGuardType Try.prog.depth 87 = false := by kernel_rfl
@[simp] theorem tb_sz88 : szOf Try.prog 88 = some 1 := by kernel_rfl
@[simp] theorem tb_ag88 : isAggT Try.prog 88 = some false := by kernel_rfl
@[simp] theorem tb_sl88 : isSl Try.prog 88 = none := by kernel_rfl
@[simp] theorem tb_ar88 : isArr Try.prog 88 = none := by kernel_rfl
@[simp] theorem tb_st88 : isStr Try.prog 88 = false := by kernel_rfl
@[simp] theorem tb_in88 : isInt Try.prog 88 = none := by kernel_rfl
@[simp] theorem tb_u888 : isU8 Try.prog 88 = false := by kernel_rfl
@[simp] theorem tb_bo88 : isBool Try.prog 88 = false := by kernel_rfl
@[simp] theorem tb_nk88 : nkT Try.prog 88 = some NK.func := by kernel_rfl
@[simp] theorem tb_by88 : (Try.prog.info? 88).map (·.bytes) = some 8 := by kernel_rfl
@[simp] theorem tb_un88 : (Try.prog.underlying 88).isSome = true := by kernel_rfl
@[simp] theorem tb_so88 : sizesOk Try.prog 88 = false := by kernel_rfl
@[simp] theorem tb_ze88 : zeroOf Try.prog 88 = some [AV.v Value.nilFunc] := by kernel_rfl
@[simp] theorem tb_fk88 : flatK Try.prog 40 88 = none := by kernel_rfl
@[simp] theorem tb_eg88 : Try.prog.eqGuardType Try.prog.depth 88 = false := by kernel_rfl
@[simp] theorem tb_sz89 : szOf Try.prog 89 = some 1 := by kernel_rfl
@[simp] theorem tb_ag89 : isAggT Try.prog 89 = some false := by kernel_rfl
@[simp] theorem tb_sl89 : isSl Try.prog 89 = none := by kernel_rfl
@[simp] theorem tb_ar89 : isArr Try.prog 89 = none := by kernel_rfl
@[simp] theorem tb_st89 : isStr Try.prog 89 = false := by kernel_rfl
@[simp] theorem tb_in89 : isInt Try.prog 89 = none := by kernel_rfl
@[simp] theorem tb_u889 : isU8 Try.prog 89 = false := by kernel_rfl
@[simp] theorem tb_bo89 : isBool Try.prog 89 = false := by kernel_rfl
@[simp] theorem tb_nk89 : nkT Try.prog 89 = some NK.func := by kernel_rfl
@[simp] theorem tb_by89 : (Try.prog.info? 89).map (·.bytes) = some 8 := by kernel_rfl
@[simp] theorem tb_un89 : (Try.prog.underlying 89).isSome = true := by kernel_rfl
@[simp] theorem tb_so89 : sizesOk Try.prog 89 = false := by kernel_rfl
@[simp] theorem tb_ze89 : zeroOf Try.prog 89 = some [AV.v Value.nilFunc] := by kernel_rfl
@[simp] theorem tb_fk89 : flatK Try.prog 40 89 = none := by kernel_rfl
@[simp] theorem tb_eg89 : Try.prog.eqGuardType Try.prog.depth 89 = false := by kernel_rfl
@[simp] theorem tb_sz90 : szOf Try.prog 90 = some 1 := by kernel_rfl
@[simp] theorem tb_ag90 : isAggT Try.prog 90 = some false := by kernel_rfl
@[simp] theorem tb_sl90 : isSl Try.prog 90 = none := by kernel_rfl
@[simp] theorem tb_ar90 : isArr Try.prog 90 = none := by kernel_rfl
@[simp] theorem tb_st90 : isStr Try.prog 90 = false := by kernel_rfl
@[simp] theorem tb_in90 : isInt Try.prog 90 = none := by kernel_rfl
@[simp] theorem tb_u890 : isU8 Try.prog 90 = false := by kernel_rfl
@[simp] theorem tb_bo90 : isBool Try.prog 90 = false := by kernel_rfl
@[simp] theorem tb_nk90 : nkT Try.prog 90 = some NK.func := by kernel_rfl
@[simp] theorem tb_by90 : (Try.prog.info? 90).map (·.bytes) = some 8 := by kernel_rfl
@[simp] theorem tb_un90 : (Try.prog.underlying 90).isSome = true := by kernel_rfl
@[simp] theorem tb_so90 : sizesOk Try.prog 90 = false := by kernel_rfl
@[simp] theorem tb_ze90 : zeroOf Try.prog 90 = some [AV.v Value.nilFunc] := by kernel_rfl
@[simp] theorem tb_fk90 : flatK Try.prog 40 90 = none := by kernel_rfl
@[simp] theorem tb_eg90 : Try.prog.eqGuardType Try.prog.depth 90 = false := by kernel_rfl
@[simp] theorem tb_sz91 : szOf Try.prog 91 = some 1 := by kernel_rfl
@[simp] theorem tb_ag91 : isAggT Try.prog 91 = some false := by kernel_rfl
@[simp] theorem tb_sl91 : isSl Try.prog 91 = none := by kernel_rfl
@[simp] theorem tb_ar91 : isArr Try.prog 91 = none := by kernel_rfl
@[simp] theorem tb_st91 : isStr Try.prog 91 = false := by kernel_rfl
@[simp] theorem tb_in91 : isInt Try.prog 91 = none := by kernel_rfl
@[simp] theorem tb_u891 : isU8 Try.prog 91 = false := by kernel_rfl
@[simp] theorem tb_bo91 : isBool Try.prog 91 = false := by kernel_rfl
@[simp] theorem tb_nk91 : nkT Try.prog 91 = some NK.func := by kernel_rfl
@[simp] theorem tb_by91 : (Try.prog.info? 91).map (·.bytes) = some 8 := by kernel_rfl
@[simp] theorem tb_un91 : (Try.prog.underlying 91).isSome = true := by kernel_rfl
@[simp] theorem tb_so91 : sizesOk Try.prog 91 = false := by kernel_rfl
@[simp] theorem tb_ze91 : zeroOf Try.prog 91 = some [AV.v Value.nilFunc] := by kernel_rfl
@[simp] theorem tb_fk91 : flatK Try.prog 40 91 = none := by kernel_rfl
@[simp] theorem tb_eg91 : Try.prog.eqGuardType Try.prog.depth 91 = false := by kernel_rfl
@[simp] theorem tb_sz92 : szOf Try.prog 92 = some 12 := by kernel_rfl
@[simp] theorem tb_ag92 : isAggT Try.prog 92 = some true := by kernel_rfl
@[simp] theorem tb_sl92 : isSl Try.prog 92 = none := by kernel_rfl
@[simp] theorem tb_ar92 : isArr Try.prog 92 = some (12, 5) := by kernel_rfl
@[simp] theorem tb_st92 : isStr Try.prog 92 = false := by kernel_rfl
@[simp] theorem tb_in92 : isInt Try.prog 92 = none := by kernel_rfl
@[simp] theorem tb_u892 : isU8 Try.prog 92 = false := by kernel_rfl
@[simp] theorem tb_bo92 : isBool Try.prog 92 = false := by kernel_rfl
@[simp] theorem tb_nk92 : nkT Try.prog 92 = none := by kernel_rfl
@[simp] theorem tb_by92 : (Try.prog.info? 92).map (·.bytes) = some 12 := by kernel_rfl
@[simp] theorem tb_un92 : (Try.prog.underlying 92).isSome = true := by kernel_rfl
@[simp] theorem tb_so92 : sizesOk Try.prog 92 = true := by kernel_rfl
@[simp] theorem tb_ze92 : zeroOf Try.prog 92 = some [AV.v (Value.int IntKind.u8 (Int.ofNat 0)), AV.v (Value.int IntKind.u8 (Int.ofNat 0)), AV.v (Value.int IntKind.u8 (Int.ofNat 0)), AV.v (Value.int IntKind.u8 (Int.ofNat 0)), AV.v (Value.int IntKind.u8 (Int.ofNat 0)), AV.v (Value.int IntKind.u8 (Int.ofNat 0)), AV.v (Value.int IntKind.u8 (Int.ofNat 0)), AV.v (Value.int IntKind.u8 (Int.ofNat 0)), AV.v (Value.int IntKind.u8 (Int.ofNat 0)), AV.v (Value.int IntKind.u8 (Int.ofNat 0)), AV.v (Value.int IntKind.u8 (Int.ofNat 0)), AV.v (Value.int IntKind.u8 (Int.ofNat 0))] := by kernel_rfl
@[simp] theorem tb_fk92 : flatK Try.prog 40 92 = some [LK.int, LK.int, LK.int, LK.int, LK.int, LK.int, LK.int, LK.int, LK.int, LK.int, LK.int, LK.int] := by kernel_rfl
@[simp] theorem tb_eg92 : Try.prog.eqGuardType Try.prog.depth 92 = false := by kernel_rfl
@[simp] theorem tb_sz93 : szOf Try.prog 93 = some 1 := by kernel_rfl
@[simp] theorem tb_ag93 : isAggT Try.prog 93 = some false := by kernel_rfl
@[simp] theorem tb_sl93 : isSl Try.prog 93 = none := by kernel_rfl
@[simp] theorem tb_ar93 : isArr Try.prog 93 = none := by kernel_rfl
@[simp] theorem tb_st93 : isStr Try.prog 93 = false := by kernel_rfl
@[simp] theorem tb_in93 : isInt Try.prog 93 = none := by kernel_rfl
@[simp] theorem tb_u893 : isU8 Try.prog 93 = false := by kernel_rfl
@[simp] theorem tb_bo93 : isBool Try.prog 93 = false := by kernel_rfl
@[simp] theorem tb_nk93 : nkT Try.prog 93 = some NK.func := by kernel_rfl
@[simp] theorem tb_by93 : (Try.prog.info? 93).map (·.bytes) = some 8 := by kernel_rfl
@[simp] theorem tb_un93 : (Try.prog.underlying 93).isSome = true := by kernel_rfl
@[simp] theorem tb_so93 : sizesOk Try.prog 93 = false := by kernel_rfl
@[simp] theorem tb_ze93 : zeroOf Try.prog 93 = some [AV.v Value.nilFunc] := by kernel_rfl
@[simp] theorem tb_fk93 : flatK Try.prog 40 93 = none := by kernel_rfl
@[simp] theorem tb_eg93 : Try.prog.eqGuardType Try.prog.depth 93 = false := by kernel_rfl
@[simp] theorem tb_sz94 : szOf Try.prog 94 = some 1 := by kernel_rfl
@[simp] theorem tb_ag94 : isAggT Try.prog 94 = some false := by kernel_rfl
@[simp] theorem tb_sl94 : isSl Try.prog 94 = none := by kernel_rfl
@[simp] theorem tb_ar94 : isArr Try.prog 94 = none := by kernel_rfl
@[simp] theorem tb_st94 : isStr Try.prog 94 = false := by kernel_rfl
@[simp] theorem tb_in94 : isInt Try.prog 94 = none := by kernel_rfl
@[simp] theorem tb_u894 : isU8 Try.prog 94 = false := by kernel_rfl
@[simp] theorem tb_bo94 : isBool Try.prog 94 = false := by kernel_rfl
@[simp] theorem tb_nk94 : nkT Try.prog 94 = some NK.func := by kernel_rfl
@[simp] theorem tb_by94 : (Try.prog.info? 94).map (·.bytes) = some 8 := by kernel_rfl
@[simp] theorem tb_un94 : (Try.prog.underlying 94).isSome = true := by kernel_rfl
@[simp] theorem tb_so94 : sizesOk Try.prog 94 = false := by kernel_rfl
@[simp] theorem tb_ze94 : zeroOf Try.prog 94 = some [AV.v Value.nilFunc] := by kernel_rfl
@[simp] theorem tb_fk94 : flatK Try.prog 40 94 = none := by kernel_rfl
@[simp] theorem tb_eg94 : Try.prog.eqGuardType Try.prog.depth 94 = false := by kernel_rfl
@[simp] theorem tb_sz95 : szOf Try.prog 95 = some 2 := by kernel_rfl
@[simp] theorem tb_ag95 : isAggT Try.prog 95 = some true := by kernel_rfl
@[simp] theorem tb_sl95 : isSl Try.prog 95 = none := by kernel_rfl
@[simp] theorem tb_ar95 : isArr Try.prog 95 = none := by kernel_rfl
@[simp] theorem tb_st95 : isStr Try.prog 95 = false := by kernel_rfl
@[simp] theorem tb_in95 : isInt Try.prog 95 = none := by kernel_rfl
@[simp] theorem tb_u895 : isU8 Try.prog 95 = false := by kernel_rfl
@[simp] theorem tb_bo95 : isBool Try.prog 95 = false := by kernel_rfl
@[simp] theorem tb_nk95 : nkT Try.prog 95 = none := by kernel_rfl
@[simp] theorem tb_by95 : (Try.prog.info? 95).map (·.bytes) = some 4 := by kernel_rfl
@[simp] theorem tb_un95 : (Try.prog.underlying 95).isSome = true := by kernel_rfl
@[simp] theorem tb_so95 : sizesOk Try.prog 95 = true := by kernel_rfl
@[simp] theorem tb_ze95 : zeroOf Try.prog 95 = some [AV.v (Value.int IntKind.u16 (Int.ofNat 0)), AV.v (Value.bool false)] := by kernel_rfl
@[simp] theorem tb_fk95 : flatK Try.prog 40 95 = some [LK.int, LK.bool] := by kernel_rfl
@[simp] theorem tb_eg95 : Try.prog.eqGuardType Try.prog.depth 95 = false := by kernel_rfl
@[simp] theorem tb_fd95_0 : fieldOf Try.prog 95 0 = some (0, 25) := by kernel_rfl
@[simp] theorem tb_fd95_1 : fieldOf Try.prog 95 1 = some (1, 4) := by kernel_rfl
@[simp] theorem tb_sz96 : szOf Try.prog 96 = some 2 := by kernel_rfl
@[simp] theorem tb_ag96 : isAggT Try.prog 96 = some true := by kernel_rfl
@[simp] theorem tb_sl96 : isSl Try.prog 96 = none := by kernel_rfl
@[simp] theorem tb_ar96 : isArr Try.prog 96 = none := by kernel_rfl
@[simp] theorem tb_st96 : isStr Try.prog 96 = false := by kernel_rfl
@[simp] theorem tb_in96 : isInt Try.prog 96 = none := by kernel_rfl
@[simp] theorem tb_u896 : isU8 Try.prog 96 = false := by kernel_rfl
@[simp] theorem tb_bo96 : isBool Try.prog 96 = false := by kernel_rfl
@[simp] theorem tb_nk96 : nkT Try.prog 96 = none := by kernel_rfl
@[simp] theorem tb_by96 : (Try.prog.info? 96).map (·.bytes) = some 4 := by kernel_rfl
@[simp] theorem tb_un96 : (Try.prog.underlying 96).isSome = true := by kernel_rfl
@[simp] theorem tb_so96 : sizesOk Try.prog 96 = true := by kernel_rfl
@[simp] theorem tb_ze96 : zeroOf Try.prog 96 = some [AV.v (Value.int IntKind.u16 (Int.ofNat 0)), AV.v (Value.bool false)] := by kernel_rfl
@[simp] theorem tb_fk96 : flatK Try.prog 40 96 = some [LK.int, LK.bool] := by kernel_rfl
@[simp] theorem tb_eg96 : Try.prog.eqGuardType Try.prog.depth 96 = false := by kernel_rfl
@[simp] theorem tb_fd96_0 : fieldOf Try.prog 96 0 = some (0, 25) := by kernel_rfl
@[simp] theorem tb_fd96_1 : fieldOf Try.prog 96 1 = some (1, 4) := by kernel_rfl
@[simp] theorem tb_sz97 : szOf Try.prog 97 = some 1 := by kernel_rfl
@[simp] theorem tb_ag97 : isAggT Try.prog 97 = some false := by kernel_rfl
@[simp] theorem tb_sl97 : isSl Try.prog 97 = none := by kernel_rfl
@[simp] theorem tb_ar97 : isArr Try.prog 97 = none := by kernel_rfl
@[simp] theorem tb_st97 : isStr Try.prog 97 = false := by kernel_rfl
@[simp] theorem tb_in97 : isInt Try.prog 97 = none := by kernel_rfl
@[simp] theorem tb_u897 : isU8 Try.prog 97 = false := by kernel_rfl
@[simp] theorem tb_bo97 : isBool Try.prog 97 = false := by kernel_rfl
@[simp] theorem tb_nk97 : nkT Try.prog 97 = some NK.func := by kernel_rfl
@[simp] theorem tb_by97 : (Try.prog.info? 97).map (·.bytes) = some 8 := by kernel_rfl
@[simp] theorem tb_un97 : (Try.prog.underlying 97).isSome = true := by kernel_rfl
@[simp] theorem tb_so97 : sizesOk Try.prog 97 = false := by kernel_rfl
@[simp] theorem tb_ze97 : zeroOf Try.prog 97 = some [AV.v Value.nilFunc] := by kernel_rfl
@[simp] theorem tb_fk97 : flatK Try.prog 40 97 = none := by kernel_rfl
@[simp] theorem tb_eg97 : Try.prog.eqGuardType Try.prog.depth 97 = false := by kernel_rfl
@[simp] theorem tb_sz98 : szOf Try.prog 98 = some 1 := by kernel_rfl
@[simp] theorem tb_ag98 : isAggT Try.prog 98 = some false := by kernel_rfl
@[simp] theorem tb_sl98 : isSl Try.prog 98 = none := by kernel_rfl
@[simp] theorem tb_ar98 : isArr Try.prog 98 = none := by kernel_rfl
@[simp] theorem tb_st98 : isStr Try.prog 98 = false := by kernel_rfl
@[simp] theorem tb_in98 : isInt Try.prog 98 = none := by kernel_rfl
@[simp] theorem tb_u898 : isU8 Try.prog 98 = false := by kernel_rfl
@[simp] theorem tb_bo98 : isBool Try.prog 98 = false := by kernel_rfl
@[simp] theorem tb_nk98 : nkT Try.prog 98 = some NK.func := by kernel_rfl
@[simp] theorem tb_by98 : (Try.prog.info? 98).map (·.bytes) = some 8 := by kernel_rfl
@[simp] theorem tb_un98 : (Try.prog.underlying 98).isSome = true := by kernel_rfl
@[simp] theorem tb_so98 : sizesOk Try.prog 98 = false := by kernel_rfl
@[simp] theorem tb_ze98 : zeroOf Try.prog 98 = some [AV.v Value.nilFunc] := by kernel_rfl
@[simp] theorem tb_fk98 : flatK Try.prog 40 98 = none := by kernel_rfl
@[simp] theorem tb_eg98 : Try.prog.eqGuardType Try.prog.depth 98 = false := by kernel_rfl
@[simp] theorem tb_sz99 : szOf Try.prog 99 = some 1 := by kernel_rfl
@[simp] theorem tb_ag99 : isAggT Try.prog 99 = some false := by kernel_rfl
@[simp] theorem tb_sl99 : isSl Try.prog 99 = none := by kernel_rfl
@[simp] theorem tb_ar99 : isArr Try.prog 99 = none := by kernel_rfl
@[simp] theorem tb_st99 : isStr Try.prog 99 = false := by kernel_rfl
@[simp] theorem tb_in99 : isInt Try.prog 99 = none := by kernel_rfl
@[simp] theorem tb_u899 : isU8 Try.prog 99 = false := by kernel_rfl
@[simp] theorem tb_bo99 : isBool Try.prog 99 = false := by kernel_rfl
@[simp] theorem tb_nk99 : nkT Try.prog 99 = none := by kernel_rfl
@[simp] theorem tb_by99 : (Try.prog.info? 99).map (·.bytes) = some 8 := by kernel_rfl
@[simp] theorem tb_un99 : (Try.prog.underlying 99).isSome = true := by kernel_rfl
@[simp] theorem tb_so99 : sizesOk Try.prog 99 = false := by kernel_rfl
@[simp] theorem tb_ze99 : zeroOf Try.prog 99 = some [AV.v (Value.map none)] := by kernel_rfl
@[simp] theorem tb_fk99 : flatK Try.prog 40 99 = none := by kernel_rfl
@[simp] theorem tb_eg99 : Try.prog.eqGuardType Try.prog.depth 99 = false := by kernel_rfl
@[simp] theorem tb_sz100 : szOf Try.prog 100 = some 1 := by kernel_rfl
@[simp] theorem tb_ag100 : isAggT Try.prog 100 = some false := by kernel_rfl
@[simp] theorem tb_sl100 : isSl Try.prog 100 = none := by kernel_rfl
@[simp] theorem tb_ar100 : isArr Try.prog 100 = none := by kernel_rfl
@[simp] theorem tb_st100 : isStr Try.prog 100 = false := by kernel_rfl
@[simp] theorem tb_in100 : isInt Try.prog 100 = none := by kernel_rfl
@[simp] theorem tb_u8100 : isU8 Try.prog 100 = false := by kernel_rfl
@[simp] theorem tb_bo100 : isBool Try.prog 100 = false := by kernel_rfl
@[simp] theorem tb_nk100 : nkT Try.prog 100 = some NK.func := by kernel_rfl
@[simp] theorem tb_by100 : (Try.prog.info? 100).map (·.bytes) = some 8 := by kernel_rfl
@[simp] theorem tb_un100 : (Try.prog.underlying 100).isSome = true := by kernel_rfl
@[simp] theorem tb_so100 : sizesOk Try.prog 100 = false := by kernel_rfl
@[simp] theorem tb_ze100 : zeroOf Try.prog 100 = some [AV.v Value.nilFunc] := by kernel_rfl
@[simp] theorem tb_fk100 : flatK Try.prog 40 100 = none := by kernel_rfl
@[simp] theorem tb_eg100 : Try.prog.eqGuardType Try.prog.depth 100 = false := by kernel_rfl
@[simp] theorem tb_sz101 : szOf Try.prog 101 = some 1 := by kernel_rfl
@[simp] theorem tb_ag101 : isAggT Try.prog 101 = some false := by kernel_rfl
@[simp] theorem tb_sl101 : isSl Try.prog 101 = none := by kernel_rfl
@[simp] theorem tb_ar101 : isArr Try.prog 101 = none := by kernel_rfl
@[simp] theorem tb_st101 : isStr Try.prog 101 = false := by kernel_rfl
@[simp] theorem tb_in101 : isInt Try.prog 101 = none := by kernel_rfl
@[simp] theorem tb_u8101 : isU8 Try.prog 101 = false := by kernel_rfl
@[simp] theorem tb_bo101 : isBool Try.prog 101 = false := by kernel_rfl
@[simp] theorem tb_nk101 : nkT Try.prog 101 = some NK.func := by kernel_rfl
@[simp] theorem tb_by101 : (Try.prog.info? 101).map (·.bytes) = some 8 := by kernel_rfl
@[simp] theorem tb_un101 : (Try.prog.underlying 101).isSome = true := by kernel_rfl
@[simp] theorem tb_so101 : sizesOk Try.prog 101 = false := by kernel_rfl
@[simp] theorem tb_ze101 : zeroOf Try.prog 101 = some [AV.v Value.nilFunc] := by kernel_rfl
@[simp] theorem tb_fk101 : flatK Try.prog 40 101 = none := by kernel_rfl
@[simp] theorem tb_eg101 : Try.prog.eqGuardType Try.prog.depth 101 = false := by kernel_rfl
@[simp] theorem tb_sz102 : szOf Try.prog 102 = some 1 := by kernel_rfl
@[simp] theorem tb_ag102 : isAggT Try.prog 102 = some false := by kernel_rfl
@[simp] theorem tb_sl102 : isSl Try.prog 102 = none := by kernel_rfl
@[simp] theorem tb_ar102 : isArr Try.prog 102 = none := by kernel_rfl
@[simp] theorem tb_st102 : isStr Try.prog 102 = false := by kernel_rfl
@[simp] theorem tb_in102 : isInt Try.prog 102 = none := by kernel_rfl
@[simp] theorem tb_u8102 : isU8 Try.prog 102 = false := by kernel_rfl
@[simp] theorem tb_bo102 : isBool Try.prog 102 = false := by kernel_rfl
@[simp] theorem tb_nk102 : nkT Try.prog 102 = none := by kernel_rfl
@[simp] theorem tb_by102 : (Try.prog.info? 102).map (·.bytes) = some 0 := by kernel_rfl
@[simp] theorem tb_un102 : (Try.prog.underlying 102).isSome = true := by kernel_rfl
@[simp] theorem tb_so102 : sizesOk Try.prog 102 = false := by kernel_rfl
@[simp] theorem tb_fk102 : flatK Try.prog 40 102 = none := by kernel_rfl
@[simp] theorem tb_eg102 : Try.prog.eqGuardType Try.prog.depth 102 = false := by kernel_rfl
@[simp] theorem tb_sz103 : szOf Try.prog 103 = some 1 := by kernel_rfl
@[simp] theorem tb_ag103 : isAggT Try.prog 103 = some false := by kernel_rfl
@[simp] theorem tb_sl103 : isSl Try.prog 103 = none := by kernel_rfl
@[simp] theorem tb_ar103 : isArr Try.prog 103 = none := by kernel_rfl
@[simp] theorem tb_st103 : isStr Try.prog 103 = false := by kernel_rfl
@[simp] theorem tb_in103 : isInt Try.prog 103 = none := by kernel_rfl
@[simp] theorem tb_u8103 : isU8 Try.prog 103 = false := by kernel_rfl
@[simp] theorem tb_bo103 : isBool Try.prog 103 = false := by kernel_rfl
@[simp] theorem tb_nk103 : nkT Try.prog 103 = none := by kernel_rfl
@[simp] theorem tb_by103 : (Try.prog.info? 103).map (·.bytes) = some 0 := by kernel_rfl
@[simp] theorem tb_un103 : (Try.prog.underlying 103).isSome = true := by kernel_rfl
@[simp] theorem tb_so103 : sizesOk Try.prog 103 = false := by kernel_rfl
@[simp] theorem tb_fk103 : flatK Try.prog 40 103 = none := by kernel_rfl
@[simp] theorem tb_eg103 : Try.prog.eqGuardType Try.prog.depth 103 = false := by kernel_rfl
@[simp] theorem tb_sz104 : szOf Try.prog 104 = some 1 := by kernel_rfl
@[simp] theorem tb_ag104 : isAggT Try.prog 104 = some false := by kernel_rfl
@[simp] theorem tb_sl104 : isSl Try.prog 104 = none := by kernel_rfl
@[simp] theorem tb_ar104 : isArr Try.prog 104 = none := by kernel_rfl
@[simp] theorem tb_st104 : isStr Try.prog 104 = false := by kernel_rfl
@[simp] theorem tb_in104 : isInt Try.prog 104 = none := by kernel_rfl
@[simp] theorem tb_u8104 : isU8 Try.prog 104 = false := by kernel_rfl
@[simp] theorem tb_bo104 : isBool Try.prog 104 = false := by kernel_rfl
@[simp] theorem tb_nk104 : nkT Try.prog 104 = some NK.func := by kernel_rfl
@[simp] theorem tb_by104 : (Try.prog.info? 104).map (·.bytes) = some 8 := by kernel_rfl
@[simp] theorem tb_un104 : (Try.prog.underlying 104).isSome = true := by kernel_rfl
@[simp] theorem tb_so104 : sizesOk Try.prog 104 = false := by kernel_rfl
@[simp] theorem tb_ze104 : zeroOf Try.prog 104 = some [AV.v Value.nilFunc] := by kernel_rfl
@[simp] theorem tb_fk104 : flatK Try.prog 40 104 = none := by kernel_rfl
@[simp] theorem tb_eg104 : Try.prog.eqGuardType Try.prog.depth 104 = false := by kernel_rfl
@[simp] theorem tb_sz105 : szOf Try.prog 105 = some 1 := by kernel_rfl
@[simp] theorem tb_ag105 : isAggT Try.prog 105 = some false := by kernel_rfl
@[simp] theorem tb_sl105 : isSl Try.prog 105 = none := by kernel_rfl
@[simp] theorem tb_ar105 : isArr Try.prog 105 = none := by kernel_rfl
@[simp] theorem tb_st105 : isStr Try.prog 105 = false := by kernel_rfl
@[simp] theorem tb_in105 : isInt Try.prog 105 = none := by kernel_rfl
@[simp] theorem tb_u8105 : isU8 Try.prog 105 = false := by kernel_rfl
@[simp] theorem tb_bo105 : isBool Try.prog 105 = false := by kernel_rfl
@[simp] theorem tb_nk105 : nkT Try.prog 105 = some NK.func := by kernel_rfl
@[simp] theorem tb_by105 : (Try.prog.info? 105).map (·.bytes) = some 8 := by kernel_rfl
@[simp] theorem tb_un105 : (Try.prog.underlying 105).isSome = true := by kernel_rfl
@[simp] theorem tb_so105 : sizesOk Try.prog 105 = false := by kernel_rfl
@[simp] theorem tb_ze105 : zeroOf Try.prog 105 = some [AV.v Value.nilFunc] := by kernel_rfl
@[simp] theorem tb_fk105 : flatK Try.prog 40 105 = none := by kernel_rfl
@[simp] theorem tb_eg105 : Try.prog.eqGuardType Try.prog.depth 105 = false := by kernel_rfl
@[simp] theorem tb_sz106 : szOf Try.prog 106 = some 1 := by kernel_rfl
@[simp] theorem tb_ag106 : isAggT Try.prog 106 = some false := by kernel_rfl
@[simp] theorem tb_sl106 : isSl Try.prog 106 = none := by kernel_rfl
@[simp] theorem tb_ar106 : isArr Try.prog 106 = none := by kernel_rfl
@[simp] theorem tb_st106 : isStr Try.prog 106 = false := by kernel_rfl
@[simp] theorem tb_in106 : isInt Try.prog 106 = none := by kernel_rfl
@[simp] theorem tb_u8106 : isU8 Try.prog 106 = false := by kernel_rfl
@[simp] theorem tb_bo106 : isBool Try.prog 106 = false := by kernel_rfl
@[simp] theorem tb_nk106 : nkT Try.prog 106 = none := by kernel_rfl
@[simp] theorem tb_by106 : (Try.prog.info? 106).map (·.bytes) = some 0 := by kernel_rfl
@[simp] theorem tb_un106 : (Try.prog.underlying 106).isSome = true := by kernel_rfl
@[simp] theorem tb_so106 : sizesOk Try.prog 106 = false := by kernel_rfl
@[simp] theorem tb_fk106 : flatK Try.prog 40 106 = none := by kernel_rfl
@[simp] theorem tb_eg106 : Try.prog.eqGuardType Try.prog.depth 106 = false := by kernel_rfl
@[simp] theorem tb_sz107 : szOf Try.prog 107 = some 1 := by kernel_rfl
@[simp] theorem tb_ag107 : isAggT Try.prog 107 = some false := by kernel_rfl
@[simp] theorem tb_sl107 : isSl Try.prog 107 = none := by kernel_rfl
@[simp] theorem tb_ar107 : isArr Try.prog 107 = none := by kernel_rfl
@[simp] theorem tb_st107 : isStr Try.prog 107 = false := by kernel_rfl
@[simp] theorem tb_in107 : isInt Try.prog 107 = none := by kernel_rfl
@[simp] theorem tb_u8107 : isU8 Try.prog 107 = false := by kernel_rfl
@[simp] theorem tb_bo107 : isBool Try.prog 107 = false := by kernel_rfl
@[simp] theorem tb_nk107 : nkT Try.prog 107 = some NK.func := by kernel_rfl
@[simp] theorem tb_by107 : (Try.prog.info? 107).map (·.bytes) = some 8 := by kernel_rfl
@[simp] theorem tb_un107 : (Try.prog.underlying 107).isSome = true := by kernel_rfl
@[simp] theorem tb_so107 : sizesOk Try.prog 107 = false := by kernel_rfl
@[simp] theorem tb_ze107 : zeroOf Try.prog 107 = some [AV.v Value.nilFunc] := by kernel_rfl
@[simp] theorem tb_fk107 : flatK Try.prog 40 107 = none := by kernel_rfl
@[simp] theorem tb_eg107 : Try.prog.eqGuardType Try.prog.depth 107 = false := by kernel_rfl
@[simp] theorem tb_sz108 : szOf Try.prog 108 = some 1 := by kernel_rfl
@[simp] theorem tb_ag108 : isAggT Try.prog 108 = some false := by kernel_rfl
@[simp] theorem tb_sl108 : isSl Try.prog 108 = none := by kernel_rfl
@[simp] theorem tb_ar108 : isArr Try.prog 108 = none := by kernel_rfl
@[simp] theorem tb_st108 : isStr Try.prog 108 = false := by kernel_rfl
@[simp] theorem tb_in108 : isInt Try.prog 108 = none := by kernel_rfl
@[simp] theorem tb_u8108 : isU8 Try.prog 108 = false := by kernel_rfl
@[simp] theorem tb_bo108 : isBool Try.prog 108 = false := by kernel_rfl
@[simp] theorem tb_nk108 : nkT Try.prog 108 = none := by kernel_rfl
@[simp] theorem tb_by108 : (Try.prog.info? 108).map (·.bytes) = some 0 := by kernel_rfl
@[simp] theorem tb_un108 : (Try.prog.underlying 108).isSome = true := by kernel_rfl
@[simp] theorem tb_so108 : sizesOk Try.prog 108 = false := by kernel_rfl
@[simp] theorem tb_fk108 : flatK Try.prog 40 108 = none := by kernel_rfl
@[simp] theorem tb_eg108 : Try.prog.eqGuardType Try.prog.depth 108 = false := by kernel_rfl
@[simp] theorem tb_sz109 : szOf Try.prog 109 = some 1 := by kernel_rfl
@[simp] theorem tb_ag109 : isAggT Try.prog 109 = some false := by kernel_rfl
@[simp] theorem tb_sl109 : isSl Try.prog 109 = none := by kernel_rfl
@[simp] theorem tb_ar109 : isArr Try.prog 109 = none := by kernel_rfl
@[simp] theorem tb_st109 : isStr Try.prog 109 = false := by kernel_rfl
@[simp] theorem tb_in109 : isInt Try.prog 109 = none := by kernel_rfl
@[simp] theorem tb_u8109 : isU8 Try.prog 109 = false := by kernel_rfl
@[simp] theorem tb_bo109 : isBool Try.prog 109 = false := by kernel_rfl
@[simp] theorem tb_nk109 : nkT Try.prog 109 = some NK.func := by kernel_rfl
@[simp] theorem tb_by109 : (Try.prog.info? 109).map (·.bytes) = some 8 := by kernel_rfl
@[simp] theorem tb_un109 : (Try.prog.underlying 109).isSome = true := by kernel_rfl
@[simp] theorem tb_so109 : sizesOk Try.prog 109 = false := by kernel_rfl
@[simp] theorem tb_ze109 : zeroOf Try.prog 109 = some [AV.v Value.nilFunc] := by kernel_rfl
@[simp] theorem tb_fk109 : flatK Try.prog 40 109 = none := by kernel_rfl
@[simp] theorem tb_eg109 : Try.prog.eqGuardType Try.prog.depth 109 = false := by kernel_rfl
@[simp] theorem tb_sz110 : szOf Try.prog 110 = some 1 := by kernel_rfl
@[simp] theorem tb_ag110 : isAggT Try.prog 110 = some false := by kernel_rfl
@[simp] theorem tb_sl110 : isSl Try.prog 110 = none := by kernel_rfl
@[simp] theorem tb_ar110 : isArr Try.prog 110 = none := by kernel_rfl
@[simp] theorem tb_st110 : isStr Try.prog 110 = false := by kernel_rfl
@[simp] theorem tb_in110 : isInt Try.prog 110 = none := by kernel_rfl
@[simp] theorem tb_u8110 : isU8 Try.prog 110 = false := by kernel_rfl
@[simp] theorem tb_bo110 : isBool Try.prog 110 = false := by kernel_rfl
@[simp] theorem tb_nk110 : nkT Try.prog 110 = some NK.func := by kernel_rfl
@[simp] theorem tb_by110 : (Try.prog.info? 110).map (·.bytes) = some 8 := by kernel_rfl
@[simp] theorem tb_un110 : (Try.prog.underlying 110).isSome = true := by kernel_rfl
@[simp] theorem tb_so110 : sizesOk Try.prog 110 = false := by kernel_rfl
@[simp] theorem tb_ze110 : zeroOf Try.prog 110 = some [AV.v Value.nilFunc] := by kernel_rfl
@[simp] theorem tb_fk110 : flatK Try.prog 40 110 = none := by kernel_rfl
@[simp] theorem tb_eg110 : Try.prog.eqGuardType Try.prog.depth 110 = false := by kernel_rfl
@[simp] theorem tb_sz111 : szOf Try.prog 111 = some 1 := by kernel_rfl
@[simp] theorem tb_ag111 : isAggT Try.prog 111 = some false := by kernel_rfl
@[simp] theorem tb_sl111 : isSl Try.prog 111 = none := by kernel_rfl
@[simp] theorem tb_ar111 : isArr Try.prog 111 = none := by kernel_rfl
@[simp] theorem tb_st111 : isStr Try.prog 111 = false := by kernel_rfl
@[simp] theorem tb_in111 : isInt Try.prog 111 = none := by kernel_rfl
@[simp] theorem tb_u8111 : isU8 Try.prog 111 = false := by kernel_rfl
@[simp] theorem tb_bo111 : isBool Try.prog 111 = false := by kernel_rfl
@[simp] theorem tb_nk111 : nkT Try.prog 111 = some NK.func := by kernel_rfl
@[simp] theorem tb_by111 : (Try.prog.info? 111).map (·.bytes) = some 8 := by kernel_rfl
@[simp] theorem tb_un111 : (Try.prog.underlying 111).isSome = true := by kernel_rfl
@[simp] theorem tb_so111 : sizesOk Try.prog 111 = false := by kernel_rfl
@[simp] theorem tb_ze111 : zeroOf Try.prog 111 = some [AV.v Value.nilFunc] := by kernel_rfl
@[simp] theorem tb_fk111 : flatK Try.prog 40 111 = none := by kernel_rfl
@[simp] theorem tb_eg111 : Try.prog.eqGuardType Try.prog.depth 111 = false := by kernel_rfl
@[simp] theorem tb_sz112 : szOf Try.prog 112 = some 1 := by kernel_rfl
@[simp] theorem tb_ag112 : isAggT Try.prog 112 = some false := by kernel_rfl
@[simp] theorem tb_sl112 : isSl Try.prog 112 = none := by kernel_rfl
@[simp] theorem tb_ar112 : isArr Try.prog 112 = none := by kernel_rfl
@[simp] theorem tb_st112 : isStr Try.prog 112 = false := by kernel_rfl
@[simp] theorem tb_in112 : isInt Try.prog 112 = none := by kernel_rfl
@[simp] theorem tb_u8112 : isU8 Try.prog 112 = false := by kernel_rfl
@[simp] theorem tb_bo112 : isBool Try.prog 112 = false := by kernel_rfl
@[simp] theorem tb_nk112 : nkT Try.prog 112 = some NK.func := by kernel_rfl
@[simp] theorem tb_by112 : (Try.prog.info? 112).map (·.bytes) = some 8 := by kernel_rfl
@[simp] theorem tb_un112 : (Try.prog.underlying 112).isSome = true := by kernel_rfl
@[simp] theorem tb_so112 : sizesOk Try.prog 112 = false := by kernel_rfl
@[simp] theorem tb_ze112 : zeroOf Try.prog 112 = some [AV.v Value.nilFunc] := by kernel_rfl
@[simp] theorem tb_fk112 : flatK Try.prog 40 112 = none := by kernel_rfl
@[simp] theorem tb_eg112 : Try.prog.eqGuardType Try.prog.depth 112 = false := by kernel_rfl
@[simp] theorem tb_sz113 : szOf Try.prog 113 = some 1 := by kernel_rfl
@[simp] theorem tb_ag113 : isAggT Try.prog 113 = some false := by kernel_rfl
@[simp] theorem tb_sl113 : isSl Try.prog 113 = some 25 := by kernel_rfl
@[simp] theorem tb_ar113 : isArr Try.prog 113 = none := by kernel_rfl
@[simp] theorem tb_st113 : isStr Try.prog 113 = false := by kernel_rfl
@[simp] theorem tb_in113 : isInt Try.prog 113 = none := by kernel_rfl
@[simp] theorem tb_u8113 : isU8 Try.prog 113 = false := by kernel_rfl
@[simp] theorem tb_bo113 : isBool Try.prog 113 = false := by kernel_rfl
@[simp] theorem tb_nk113 : nkT Try.prog 113 = some NK.slice := by kernel_rfl
@[simp] theorem tb_by113 : (Try.prog.info? 113).map (·.bytes) = some 24 := by kernel_rfl
@[simp] theorem tb_un113 : (Try.prog.underlying 113).isSome = true := by kernel_rfl
@[simp] theorem tb_so113 : sizesOk Try.prog 113 = false := by kernel_rfl
@[simp] theorem tb_ze113 : zeroOf Try.prog 113 = some [AV.v (Value.slice none 0 0)] := by kernel_rfl
@[simp] theorem tb_fk113 : flatK Try.prog 40 113 = none := by kernel_rfl
@[simp] theorem tb_eg113 : Try.prog.eqGuardType Try.prog.depth 113 = false := by kernel_rfl
@[simp] theorem tb_sz114 : szOf Try.prog 114 = some 1 := by kernel_rfl
@[simp] theorem tb_ag114 : isAggT Try.prog 114 = some false := by kernel_rfl
@[simp] theorem tb_sl114 : isSl Try.prog 114 = none := by kernel_rfl
@[simp] theorem tb_ar114 : isArr Try.prog 114 = none := by kernel_rfl
@[simp] theorem tb_st114 : isStr Try.prog 114 = false := by kernel_rfl
@[simp] theorem tb_in114 : isInt Try.prog 114 = none := by kernel_rfl
@[simp] theorem tb_u8114 : isU8 Try.prog 114 = false := by kernel_rfl
@[simp] theorem tb_bo114 : isBool Try.prog 114 = false := by kernel_rfl
@[simp] theorem tb_nk114 : nkT Try.prog 114 = some NK.func := by kernel_rfl
@[simp] theorem tb_by114 : (Try.prog.info? 114).map (·.bytes) = some 8 := by kernel_rfl
@[simp] theorem tb_un114 : (Try.prog.underlying 114).isSome = true := by kernel_rfl
@[simp] theorem tb_so114 : sizesOk Try.prog 114 = false := by kernel_rfl
@[simp] theorem tb_ze114 : zeroOf Try.prog 114 = some [AV.v Value.nilFunc] := by kernel_rfl
@[simp] theorem tb_fk114 : flatK Try.prog 40 114 = none := by kernel_rfl
@[simp] theorem tb_eg114 : Try.prog.eqGuardType Try.prog.depth 114 = false := by kernel_rfl
@[simp] theorem tb_sz115 : szOf Try.prog 115 = some 1 := by kernel_rfl
@[simp] theorem tb_ag115 : isAggT Try.prog 115 = some false := by kernel_rfl
@[simp] theorem tb_sl115 : isSl Try.prog 115 = none := by kernel_rfl
@[simp] theorem tb_ar115 : isArr Try.prog 115 = none := by kernel_rfl
@[simp] theorem tb_st115 : isStr Try.prog 115 = false := by kernel_rfl
@[simp] theorem tb_in115 : isInt Try.prog 115 = none := by kernel_rfl
@[simp] theorem tb_u8115 : isU8 Try.prog 115 = false := by kernel_rfl
@[simp] theorem tb_bo115 : isBool Try.prog 115 = false := by kernel_rfl
@[simp] theorem tb_nk115 : nkT Try.prog 115 = some NK.func := by kernel_rfl
@[simp] theorem tb_by115 : (Try.prog.info? 115).map (·.bytes) = some 8 := by kernel_rfl
@[simp] theorem tb_un115 : (Try.prog.underlying 115).isSome = true := by kernel_rfl
@[simp] theorem tb_so115 : sizesOk Try.prog 115 = false := by kernel_rfl
@[simp] theorem tb_ze115 : zeroOf Try.prog 115 = some [AV.v Value.nilFunc] := by kernel_rfl
@[simp] theorem tb_fk115 : flatK Try.prog 40 115 = none := by kernel_rfl
@[simp] theorem tb_eg115 : Try.prog.eqGuardType Try.prog.depth 115 = false := by kernel_rfl
@[simp] theorem tb_sz116 : szOf Try.prog 116 = some 1 := by kernel_rfl
@[simp] theorem tb_ag116 : isAggT Try.prog 116 = some false := by kernel_rfl
@[simp] theorem tb_sl116 : isSl Try.prog 116 = none := by kernel_rfl
@[simp] theorem tb_ar116 : isArr Try.prog 116 = none := by kernel_rfl
@[simp] theorem tb_st116 : isStr Try.prog 116 = false := by kernel_rfl
@[simp] theorem tb_in116 : isInt Try.prog 116 = none := by kernel_rfl
@[simp] theorem tb_u8116 : isU8 Try.prog 116 = false := by kernel_rfl
@[simp] theorem tb_bo116 : isBool Try.prog 116 = false := by kernel_rfl
@[simp] theorem tb_nk116 : nkT Try.prog 116 = some NK.func := by kernel_rfl
@[simp] theorem tb_by116 : (Try.prog.info? 116).map (·.bytes) = some 8 := by kernel_rfl
@[simp] theorem tb_un116 : (Try.prog.underlying 116).isSome = true := by kernel_rfl
@[simp] theorem tb_so116 : sizesOk Try.prog 116 = false := by kernel_rfl
@[simp] theorem tb_ze116 : zeroOf Try.prog 116 = some [AV.v Value.nilFunc] := by kernel_rfl
@[simp] theorem tb_fk116 : flatK Try.prog 40 116 = none := by kernel_rfl
@[simp] theorem tb_eg116 : Try.prog.eqGuardType Try.prog.depth 116 = false := by kernel_rfl
@[simp] theorem tb_sz117 : szOf Try.prog 117 = some 1 := by kernel_rfl
@[simp] theorem tb_ag117 : isAggT Try.prog 117 = some false := by kernel_rfl
@[simp] theorem tb_sl117 : isSl Try.prog 117 = none := by kernel_rfl
@[simp] theorem tb_ar117 : isArr Try.prog 117 = none := by kernel_rfl
@[simp] theorem tb_st117 : isStr Try.prog 117 = false := by kernel_rfl
@[simp] theorem tb_in117 : isInt Try.prog 117 = none := by kernel_rfl
@[simp] theorem tb_u8117 : isU8 Try.prog 117 = false := by kernel_rfl
@[simp] theorem tb_bo117 : isBool Try.prog 117 = false := by kernel_rfl
@[simp] theorem tb_nk117 : nkT Try.prog 117 = some NK.func := by kernel_rfl
@[simp] theorem tb_by117 : (Try.prog.info? 117).map (·.bytes) = some 8 := by kernel_rfl
@[simp] theorem tb_un117 : (Try.prog.underlying 117).isSome = true := by kernel_rfl
@[simp] theorem tb_so117 : sizesOk Try.prog 117 = false := by kernel_rfl
@[simp] theorem tb_ze117 : zeroOf Try.prog 117 = some [AV.v Value.nilFunc] := by kernel_rfl
@[simp] theorem tb_fk117 : flatK Try.prog 40 117 = none := by kernel_rfl
@[simp] theorem tb_eg117 : Try.prog.eqGuardType Try.prog.depth 117 = false := by kernel_rfl
@[simp] theorem tb_sz118 : szOf Try.prog 118 = some 1 := by kernel_rfl
@[simp] theorem tb_ag118 : isAggT Try.prog 118 = some false := by kernel_rfl
@[simp] theorem tb_sl118 : isSl Try.prog 118 = none := by kernel_rfl
@[simp] theorem tb_ar118 : isArr Try.prog 118 = none := by kernel_rfl
@[simp] theorem tb_st118 : isStr Try.prog 118 = false := by kernel_rfl
@[simp] theorem tb_in118 : isInt Try.prog 118 = none := by kernel_rfl
@[simp] theorem tb_u8118 : isU8 Try.prog 118 = false := by kernel_rfl
@[simp] theorem tb_bo118 : isBool Try.prog 118 = false := by kernel_rfl
@[simp] theorem tb_nk118 : nkT Try.prog 118 = some NK.func := by kernel_rfl
@[simp] theorem tb_by118 : (Try.prog.info? 118).map (·.bytes) = some 8 := by kernel_rfl
@[simp] theorem tb_un118 : (Try.prog.underlying 118).isSome = true := by kernel_rfl
@[simp] theorem tb_so118 : sizesOk Try.prog 118 = false := by kernel_rfl
@[simp] theorem tb_ze118 : zeroOf Try.prog 118 = some [AV.v Value.nilFunc] := by kernel_rfl
@[simp] theorem tb_fk118 : flatK Try.prog 40 118 = none := by kernel_rfl
@[simp] theorem tb_eg118 : Try.prog.eqGuardType Try.prog.depth 118 = false := by kernel_rfl
@[simp] theorem tb_sz119 : szOf Try.prog 119 = some 1 := by kernel_rfl
@[simp] theorem tb_ag119 : isAggT Try.prog 119 = some false := by kernel_rfl
@[simp] theorem tb_sl119 : isSl Try.prog 119 = none := by kernel_rfl
@[simp] theorem tb_ar119 : isArr Try.prog 119 = none := by kernel_rfl
@[simp] theorem tb_st119 : isStr Try.prog 119 = false := by kernel_rfl
@[simp] theorem tb_in119 : isInt Try.prog 119 = none := by kernel_rfl
@[simp] theorem tb_u8119 : isU8 Try.prog 119 = false := by kernel_rfl
@[simp] theorem tb_bo119 : isBool Try.prog 119 = false := by kernel_rfl
@[simp] theorem tb_nk119 : nkT Try.prog 119 = some NK.func := by kernel_rfl
@[simp] theorem tb_by119 : (Try.prog.info? 119).map (·.bytes) = some 8 := by kernel_rfl
@[simp] theorem tb_un119 : (Try.prog.underlying 119).isSome = true := by kernel_rfl
@[simp] theorem tb_so119 : sizesOk Try.prog 119 = false := by kernel_rfl
@[simp] theorem tb_ze119 : zeroOf Try.prog 119 = some [AV.v Value.nilFunc] := by kernel_rfl
@[simp] theorem tb_fk119 : flatK Try.prog 40 119 = none := by kernel_rfl
@[simp] theorem tb_eg119 : Try.prog.eqGuardType Try.prog.depth 119 = false := by kernel_rfl
@[simp] theorem tb_sz120 : szOf Try.prog 120 = some 1 := by kernel_rfl
@[simp] theorem tb_ag120 : isAggT Try.prog 120 = some false := by kernel_rfl
@[simp] theorem tb_sl120 : isSl Try.prog 120 = none := by kernel_rfl
@[simp] theorem tb_ar120 : isArr Try.prog 120 = none := by kernel_rfl
@[simp] theorem tb_st120 : isStr Try.prog 120 = false := by kernel_rfl
@[simp] theorem tb_in120 : isInt Try.prog 120 = none := by kernel_rfl
@[simp] theorem tb_u8120 : isU8 Try.prog 120 = false := by kernel_rfl
@[simp] theorem tb_bo120 : isBool Try.prog 120 = false := by kernel_rfl
@[simp] theorem tb_nk120 : nkT Try.prog 120 = some NK.func := by kernel_rfl
@[simp] theorem tb_by120 : (Try.prog.info? 120).map (·.bytes) = some 8 := by kernel_rfl
@[simp] theorem tb_un120 : (Try.prog.underlying 120).isSome = true := by kernel_rfl
@[simp] theorem tb_so120 : sizesOk Try.prog 120 = false := by kernel_rfl
@[simp] theorem tb_ze120 : zeroOf Try.prog 120 = some [AV.v Value.nilFunc] := by kernel_rfl
@[simp] theorem tb_fk120 : flatK Try.prog 40 120 = none := by kernel_rfl
@[simp] theorem tb_eg120 : Try.prog.eqGuardType Try.prog.depth 120 = false := by kernel_rfl
@[simp] theorem tb_sz121 : szOf Try.prog 121 = some 4 := by kernel_rfl
@[simp] theorem tb_ag121 : isAggT Try.prog 121 = some true := by kernel_rfl
@[simp] theorem tb_sl121 : isSl Try.prog 121 = none := by kernel_rfl
@[simp] theorem tb_ar121 : isArr Try.prog 121 = none := by kernel_rfl
@[simp] theorem tb_st121 : isStr Try.prog 121 = false := by kernel_rfl
@[simp] theorem tb_in121 : isInt Try.prog 121 = none := by kernel_rfl
@[simp] theorem tb_u8121 : isU8 Try.prog 121 = false := by kernel_rfl
@[simp] theorem tb_bo121 : isBool Try.prog 121 = false := by kernel_rfl
@[simp] theorem tb_nk121 : nkT Try.prog 121 = none := by kernel_rfl
@[simp] theorem tb_by121 : (Try.prog.info? 121).map (·.bytes) = some 40 := by kernel_rfl
@[simp] theorem tb_un121 : (Try.prog.underlying 121).isSome = true := by kernel_rfl
@[simp] theorem tb_so121 : sizesOk Try.prog 121 = true := by kernel_rfl
@[simp] theorem tb_ze121 : zeroOf Try.prog 121 = some [AV.v (Value.pointer none), AV.v (Value.pointer none), AV.v (Value.pointer none), AV.v (Value.string { data := #[] })] := by kernel_rfl
@[simp] theorem tb_fk121 : flatK Try.prog 40 121 = none := by kernel_rfl
@[simp] theorem tb_eg121 : Try.prog.eqGuardType Try.prog.depth 121 = false := by kernel_rfl
@[simp] theorem tb_fd121_0 : fieldOf Try.prog 121 0 = some (0, 17) := by kernel_rfl
@[simp] theorem tb_fd121_1 : fieldOf Try.prog 121 1 = some (1, 17) := by kernel_rfl
@[simp] theorem tb_fd121_2 : fieldOf Try.prog 121 2 = some (2, 17) := by kernel_rfl
@[simp] theorem tb_fd121_3 : fieldOf Try.prog 121 3 = some (3, 9) := by kernel_rfl
@[simp] theorem tb_sz122 : szOf Try.prog 122 = some 4 := by kernel_rfl
@[simp] theorem tb_ag122 : isAggT Try.prog 122 = some true := by kernel_rfl
@[simp] theorem tb_sl122 : isSl Try.prog 122 = none := by kernel_rfl
@[simp] theorem tb_ar122 : isArr Try.prog 122 = none := by kernel_rfl
@[simp] theorem tb_st122 : isStr Try.prog 122 = false := by kernel_rfl
@[simp] theorem tb_in122 : isInt Try.prog 122 = none := by kernel_rfl
@[simp] theorem tb_u8122 : isU8 Try.prog 122 = false := by kernel_rfl
@[simp] theorem tb_bo122 : isBool Try.prog 122 = false := by kernel_rfl
@[simp] theorem tb_nk122 : nkT Try.prog 122 = none := by kernel_rfl
@[simp] theorem tb_by122 : (Try.prog.info? 122).map (·.bytes) = some 40 := by kernel_rfl
@[simp] theorem tb_un122 : (Try.prog.underlying 122).isSome = true := by kernel_rfl
@[simp] theorem tb_so122 : sizesOk Try.prog 122 = true := by kernel_rfl
@[simp] theorem tb_ze122 : zeroOf Try.prog 122 = some [AV.v (Value.pointer none), AV.v (Value.pointer none), AV.v (Value.pointer none), AV.v (Value.string { data := #[] })] := by kernel_rfl
@[simp] theorem tb_fk122 : flatK Try.prog 40 122 = none := by kernel_rfl
@[simp] theorem tb_eg122 : Try.prog.eqGuardType Try.prog.depth 122 = false := by kernel_rfl
@[simp] theorem tb_fd122_0 : fieldOf Try.prog 122 0 = some (0, 17) := by kernel_rfl
@[simp] theorem tb_fd122_1 : fieldOf Try.prog 122 1 = some (1, 17) := by kernel_rfl
@[simp] theorem tb_fd122_2 : fieldOf Try.prog 122 2 = some (2, 17) := by kernel_rfl
@[simp] theorem tb_fd122_3 : fieldOf Try.prog 122 3 = some (3, 9) := by kernel_rfl
@[simp] theorem tb_sz123 : szOf Try.prog 123 = some 0 := by kernel_rfl
@[simp] theorem tb_ag123 : isAggT Try.prog 123 = some true := by kernel_rfl
@[simp] theorem tb_sl123 : isSl Try.prog 123 = none := by kernel_rfl
@[simp] theorem tb_ar123 : isArr Try.prog 123 = some (0, 16) := by kernel_rfl
@[simp] theorem tb_st123 : isStr Try.prog 123 = false := by kernel_rfl
@[simp] theorem tb_in123 : isInt Try.prog 123 = none := by kernel_rfl
@[simp] theorem tb_u8123 : isU8 Try.prog 123 = false := by kernel_rfl
@[simp] theorem tb_bo123 : isBool Try.prog 123 = false := by kernel_rfl
@[simp] theorem tb_nk123 : nkT Try.prog 123 = none := by kernel_rfl
@[simp] theorem tb_by123 : (Try.prog.info? 123).map (·.bytes) = some 0 := by kernel_rfl
@[simp] theorem tb_un123 : (Try.prog.underlying 123).isSome = true := by kernel_rfl
@[simp] theorem tb_so123 : sizesOk Try.prog 123 = true := by kernel_rfl
@[simp] theorem tb_ze123 : zeroOf Try.prog 123 = some [] := by kernel_rfl
@[simp] theorem tb_fk123 : flatK Try.prog 40 123 = none := by kernel_rfl
@[simp] theorem tb_eg123 : Try.prog.eqGuardType Try.prog.depth 123 = false := by kernel_rfl
@[simp] theorem tb_sz124 : szOf Try.prog 124 = some 0 := by kernel_rfl
@[simp] theorem tb_ag124 : isAggT Try.prog 124 = some true := by kernel_rfl
@[simp] theorem tb_sl124 : isSl Try.prog 124 = none := by kernel_rfl
@[simp] theorem tb_ar124 : isArr Try.prog 124 = none := by kernel_rfl
@[simp] theorem tb_st124 : isStr Try.prog 124 = false := by kernel_rfl
@[simp] theorem tb_in124 : isInt Try.prog 124 = none := by kernel_rfl
@[simp] theorem tb_u8124 : isU8 Try.prog 124 = false := by kernel_rfl
@[simp] theorem tb_bo124 : isBool Try.prog 124 = false := by kernel_rfl
@[simp] theorem tb_nk124 : nkT Try.prog 124 = none := by kernel_rfl
@[simp] theorem tb_by124 : (Try.prog.info? 124).map (·.bytes) = some 0 := by kernel_rfl
@[simp] theorem tb_un124 : (Try.prog.underlying 124).isSome = true := by kernel_rfl
@[simp] theorem tb_so124 : sizesOk Try.prog 124 = true := by kernel_rfl
@[simp] theorem tb_ze124 : zeroOf Try.prog 124 = some [] := by kernel_rfl
@[simp] theorem tb_fk124 : flatK Try.prog 40 124 = none := by kernel_rfl
@[simp] theorem tb_eg124 : Try.prog.eqGuardType Try.prog.depth 124 = false := by kernel_rfl
@[simp] theorem tb_fd124_0 : fieldOf Try.prog 124 0 = some (0, 123) := by kernel_rfl
@[simp] theorem tb_sz125 : szOf Try.prog 125 = some 0 := by kernel_rfl
@[simp] theorem tb_ag125 : isAggT Try.prog 125 = some true := by kernel_rfl
@[simp] theorem tb_sl125 : isSl Try.prog 125 = none := by kernel_rfl
@[simp] theorem tb_ar125 : isArr Try.prog 125 = none := by kernel_rfl
@[simp] theorem tb_st125 : isStr Try.prog 125 = false := by kernel_rfl
@[simp] theorem tb_in125 : isInt Try.prog 125 = none := by kernel_rfl
@[simp] theorem tb_u8125 : isU8 Try.prog 125 = false := by kernel_rfl
@[simp] theorem tb_bo125 : isBool Try.prog 125 = false := by kernel_rfl
@[simp] theorem tb_nk125 : nkT Try.prog 125 = none := by kernel_rfl
@[simp] theorem tb_by125 : (Try.prog.info? 125).map (·.bytes) = some 0 := by kernel_rfl
@[simp] theorem tb_un125 : (Try.prog.underlying 125).isSome = true := by kernel_rfl
@[simp] theorem tb_so125 : sizesOk Try.prog 125 = true := by kernel_rfl
@[simp] theorem tb_ze125 : zeroOf Try.prog 125 = some [] := by kernel_rfl
@[simp] theorem tb_fk125 : flatK Try.prog 40 125 = none := by kernel_rfl
@[simp] theorem tb_eg125 : Try.prog.eqGuardType Try.prog.depth 125 = false := by kernel_rfl
@[simp] theorem tb_fd125_0 : fieldOf Try.prog 125 0 = some (0, 123) := by kernel_rfl
@[simp] theorem tb_sz126 : szOf Try.prog 126 = some 1 := by kernel_rfl
@[simp] theorem tb_ag126 : isAggT Try.prog 126 = some false := by kernel_rfl
@[simp] theorem tb_sl126 : isSl Try.prog 126 = none := by kernel_rfl
@[simp] theorem tb_ar126 : isArr Try.prog 126 = none := by kernel_rfl
@[simp] theorem tb_st126 : isStr Try.prog 126 = false := by kernel_rfl
@[simp] theorem tb_in126 : isInt Try.prog 126 = none := by kernel_rfl
@[simp] theorem tb_u8126 : isU8 Try.prog 126 = false := by kernel_rfl
@[simp] theorem tb_bo126 : isBool Try.prog 126 = false := by kernel_rfl
@[simp] theorem tb_nk126 : nkT Try.prog 126 = some NK.func := by kernel_rfl
@[simp] theorem tb_by126 : (Try.prog.info? 126).map (·.bytes) = some 8 := by kernel_rfl
@[simp] theorem tb_un126 : (Try.prog.underlying 126).isSome = true := by kernel_rfl
@[simp] theorem tb_so126 : sizesOk Try.prog 126 = false := by kernel_rfl
@[simp] theorem tb_ze126 : zeroOf Try.prog 126 = some [AV.v Value.nilFunc] := by kernel_rfl
@[simp] theorem tb_fk126 : flatK Try.prog 40 126 = none := by kernel_rfl
@[simp] theorem tb_eg126 : Try.prog.eqGuardType Try.prog.depth 126 = false := by kernel_rfl
@[simp] theorem tb_sz127 : szOf Try.prog 127 = some 1 := by kernel_rfl
@[simp] theorem tb_ag127 : isAggT Try.prog 127 = some false := by kernel_rfl
@[simp] theorem tb_sl127 : isSl Try.prog 127 = none := by kernel_rfl
@[simp] theorem tb_ar127 : isArr Try.prog 127 = none := by kernel_rfl
@[simp] theorem tb_st127 : isStr Try.prog 127 = false := by kernel_rfl
@[simp] theorem tb_in127 : isInt Try.prog 127 = some IntKind.u8 := by kernel_rfl
@[simp] theorem tb_u8127 : isU8 Try.prog 127 = true := by kernel_rfl
@[simp] theorem tb_bo127 : isBool Try.prog 127 = false := by kernel_rfl
@[simp] theorem tb_nk127 : nkT Try.prog 127 = none := by kernel_rfl
@[simp] theorem tb_by127 : (Try.prog.info? 127).map (·.bytes) = some 1 := by kernel_rfl
@[simp] theorem tb_un127 : (Try.prog.underlying 127).isSome = true := by kernel_rfl
@[simp] theorem tb_so127 : sizesOk Try.prog 127 = false := by kernel_rfl
@[simp] theorem tb_ze127 : zeroOf Try.prog 127 = some [AV.v (Value.int IntKind.u8 (Int.ofNat 0))] := by kernel_rfl
@[simp] theorem tb_fk127 : flatK Try.prog 40 127 = some [LK.int] := by kernel_rfl
@[simp] theorem tb_eg127 : Try.prog.eqGuardType Try.prog.depth 127 = false := by kernel_rfl
@[simp] theorem tb_sz128 : szOf Try.prog 128 = some 1 := by kernel_rfl
@[simp] theorem tb_ag128 : isAggT Try.prog 128 = some false := by kernel_rfl
@[simp] theorem tb_sl128 : isSl Try.prog 128 = none := by kernel_rfl
@[simp] theorem tb_ar128 : isArr Try.prog 128 = none := by kernel_rfl
@[simp] theorem tb_st128 : isStr Try.prog 128 = false := by kernel_rfl
@[simp] theorem tb_in128 : isInt Try.prog 128 = some IntKind.u8 := by kernel_rfl
@[simp] theorem tb_u8128 : isU8 Try.prog 128 = true := by kernel_rfl
@[simp] theorem tb_bo128 : isBool Try.prog 128 = false := by kernel_rfl
@[simp] theorem tb_nk128 : nkT Try.prog 128 = none := by kernel_rfl
@[simp] theorem tb_by128 : (Try.prog.info? 128).map (·.bytes) = some 1 := by kernel_rfl
@[simp] theorem tb_un128 : (Try.prog.underlying 128).isSome = true := by kernel_rfl
@[simp] theorem tb_so128 : sizesOk Try.prog 128 = false := by kernel_rfl
@[simp] theorem tb_ze128 : zeroOf Try.prog 128 = some [AV.v (Value.int IntKind.u8 (Int.ofNat 0))] := by kernel_rfl
@[simp] theorem tb_fk128 : flatK Try.prog 40 128 = some [LK.int] := by kernel_rfl
@[simp] theorem tb_eg128 : Try.prog.eqGuardType Try.prog.depth 128 = false := by kernel_rfl
@[simp] theorem tb_sz129 : szOf Try.prog 129 = some 1 := by kernel_rfl
@[simp] theorem tb_ag129 : isAggT Try.prog 129 = some false := by kernel_rfl
@[simp] theorem tb_sl129 : isSl Try.prog 129 = none := by kernel_rfl
@[simp] theorem tb_ar129 : isArr Try.prog 129 = none := by kernel_rfl
@[simp] theorem tb_st129 : isStr Try.prog 129 = false := by kernel_rfl
@[simp] theorem tb_in129 : isInt Try.prog 129 = none := by kernel_rfl
@[simp] theorem tb_u8129 : isU8 Try.prog 129 = false := by kernel_rfl
@[simp] theorem tb_bo129 : isBool Try.prog 129 = false := by kernel_rfl
@[simp] theorem tb_nk129 : nkT Try.prog 129 = some NK.func := by kernel_rfl
@[simp] theorem tb_by129 : (Try.prog.info? 129).map (·.bytes) = some 8 := by kernel_rfl
@[simp] theorem tb_un129 : (Try.prog.underlying 129).isSome = true := by kernel_rfl
@[simp] theorem tb_so129 : sizesOk Try.prog 129 = false := by kernel_rfl
@[simp] theorem tb_ze129 : zeroOf Try.prog 129 = some [AV.v Value.nilFunc] := by kernel_rfl
@[simp] theorem tb_fk129 : flatK Try.prog 40 129 = none := by kernel_rfl
@[simp] theorem tb_eg129 : Try.prog.eqGuardType Try.prog.depth 129 = false := by kernel_rfl
@[simp] theorem tb_sz130 : szOf Try.prog 130 = some 1 := by kernel_rfl
@[simp] theorem tb_ag130 : isAggT Try.prog 130 = some false := by kernel_rfl
@[simp] theorem tb_sl130 : isSl Try.prog 130 = none := by kernel_rfl
@[simp] theorem tb_ar130 : isArr Try.prog 130 = none := by kernel_rfl
@[simp] theorem tb_st130 : isStr Try.prog 130 = false := by kernel_rfl
@[simp] theorem tb_in130 : isInt Try.prog 130 = none := by kernel_rfl
@[simp] theorem tb_u8130 : isU8 Try.prog 130 = false := by kernel_rfl
@[simp] theorem tb_bo130 : isBool Try.prog 130 = false := by kernel_rfl
@[simp] theorem tb_nk130 : nkT Try.prog 130 = some NK.ptr := by kernel_rfl
@[simp] theorem tb_by130 : (Try.prog.info? 130).map (·.bytes) = some 8 := by kernel_rfl
@[simp] theorem tb_un130 : (Try.prog.underlying 130).isSome = true := by kernel_rfl
@[simp] theorem tb_so130 : sizesOk Try.prog 130 = false := by kernel_rfl
@[simp] theorem tb_ze130 : zeroOf Try.prog 130 = some [AV.v (Value.pointer none)] := by kernel_rfl
@[simp] theorem tb_fk130 : flatK Try.prog 40 130 = none := by kernel_rfl
@[simp] theorem tb_eg130 : Try.prog.eqGuardType Try.prog.depth 130 = false := by kernel_rfl
@[simp] theorem tb_sz131 : szOf Try.prog 131 = some 1 := by kernel_rfl
@[simp] theorem tb_ag131 : isAggT Try.prog 131 = some false := by kernel_rfl
@[simp] theorem tb_sl131 : isSl Try.prog 131 = none := by kernel_rfl
@[simp] theorem tb_ar131 : isArr Try.prog 131 = none := by kernel_rfl
@[simp] theorem tb_st131 : isStr Try.prog 131 = false := by kernel_rfl
@[simp] theorem tb_in131 : isInt Try.prog 131 = some IntKind.i32 := by kernel_rfl
@[simp] theorem tb_u8131 : isU8 Try.prog 131 = false := by kernel_rfl
@[simp] theorem tb_bo131 : isBool Try.prog 131 = false := by kernel_rfl
@[simp] theorem tb_nk131 : nkT Try.prog 131 = none := by kernel_rfl
@[simp] theorem tb_by131 : (Try.prog.info? 131).map (·.bytes) = some 4 := by kernel_rfl
@[simp] theorem tb_un131 : (Try.prog.underlying 131).isSome = true := by kernel_rfl
@[simp] theorem tb_so131 : sizesOk Try.prog 131 = false := by kernel_rfl
@[simp] theorem tb_ze131 : zeroOf Try.prog 131 = some [AV.v (Value.int IntKind.i32 (Int.ofNat 0))] := by kernel_rfl
@[simp] theorem tb_fk131 : flatK Try.prog 40 131 = some [LK.int] := by kernel_rfl
@[simp] theorem tb_eg131 : Try.prog.eqGuardType Try.prog.depth 131 = false := by kernel_rfl
@[simp] theorem tb_sz132 : szOf Try.prog 132 = some 1 := by kernel_rfl
@[simp] theorem tb_ag132 : isAggT Try.prog 132 = some false := by kernel_rfl
@[simp] theorem tb_sl132 : isSl Try.prog 132 = none := by kernel_rfl
@[simp] theorem tb_ar132 : isArr Try.prog 132 = none := by kernel_rfl
@[simp] theorem tb_st132 : isStr Try.prog 132 = false := by kernel_rfl
@[simp] theorem tb_in132 : isInt Try.prog 132 = some IntKind.i32 := by kernel_rfl
@[simp] theorem tb_u8132 : isU8 Try.prog 132 = false := by kernel_rfl
@[simp] theorem tb_bo132 : isBool Try.prog 132 = false := by kernel_rfl
@[simp] theorem tb_nk132 : nkT Try.prog 132 = none := by kernel_rfl
@[simp] theorem tb_by132 : (Try.prog.info? 132).map (·.bytes) = some 4 := by kernel_rfl
@[simp] theorem tb_un132 : (Try.prog.underlying 132).isSome = true := by kernel_rfl
@[simp] theorem tb_so132 : sizesOk Try.prog 132 = false := by kernel_rfl
@[simp] theorem tb_ze132 : zeroOf Try.prog 132 = some [AV.v (Value.int IntKind.i32 (Int.ofNat 0))] := by kernel_rfl
@[simp] theorem tb_fk132 : flatK Try.prog 40 132 = some [LK.int] := by kernel_rfl
@[simp] theorem tb_eg132 : Try.prog.eqGuardType Try.prog.depth 132 = false := by kernel_rfl
@[simp] theorem tb_sz133 : szOf Try.prog 133 = some 11 := by kernel_rfl
@[simp] theorem tb_ag133 : isAggT Try.prog 133 = some true := by kernel_rfl
@[simp] theorem tb_sl133 : isSl Try.prog 133 = none := by kernel_rfl
@[simp] theorem tb_ar133 : isArr Try.prog 133 = none := by kernel_rfl
@[simp] theorem tb_st133 : isStr Try.prog 133 = false := by kernel_rfl
@[simp] theorem tb_in133 : isInt Try.prog 133 = none := by kernel_rfl
@[simp] theorem tb_u8133 : isU8 Try.prog 133 = false := by kernel_rfl
@[simp] theorem tb_bo133 : isBool Try.prog 133 = false := by kernel_rfl
@[simp] theorem tb_nk133 : nkT Try.prog 133 = none := by kernel_rfl
@[simp] theorem tb_by133 : (Try.prog.info? 133).map (·.bytes) = some 48 := by kernel_rfl
@[simp] theorem tb_un133 : (Try.prog.underlying 133).isSome = true := by kernel_rfl
@[simp] theorem tb_so133 : sizesOk Try.prog 133 = true := by kernel_rfl
@[simp] theorem tb_ze133 : zeroOf Try.prog 133 = some [AV.v (Value.int IntKind.u64 (Int.ofNat 0)), AV.v (Value.int IntKind.u64 (Int.ofNat 0)), AV.v (Value.int IntKind.u32 (Int.ofNat 0)), AV.v (Value.int IntKind.u8 (Int.ofNat 0)), AV.v (Value.int IntKind.u8 (Int.ofNat 0)), AV.v (Value.int IntKind.u8 (Int.ofNat 0)), AV.v (Value.int IntKind.u8 (Int.ofNat 0)), AV.v Value.nilFunc, AV.v (Value.pointer none), AV.v (Value.int IntKind.i32 (Int.ofNat 0)), AV.v (Value.int IntKind.i32 (Int.ofNat 0))] := by kernel_rfl
@[simp] theorem tb_fk133 : flatK Try.prog 40 133 = none := by kernel_rfl
@[simp] theorem tb_eg133 : Try.prog.eqGuardType Try.prog.depth 133 = false := by kernel_rfl
@[simp] theorem tb_fd133_0 : fieldOf Try.prog 133 0 = some (0, 12) := by kernel_rfl
@[simp] theorem tb_fd133_1 : fieldOf Try.prog 133 1 = some (1, 12) := by kernel_rfl
@[simp] theorem tb_fd133_2 : fieldOf Try.prog 133 2 = some (2, 26) := by kernel_rfl
@[simp] theorem tb_fd133_3 : fieldOf Try.prog 133 3 = some (3, 127) := by kernel_rfl
@[simp] theorem tb_fd133_4 : fieldOf Try.prog 133 4 = some (4, 5) := by kernel_rfl
@[simp] theorem tb_fd133_5 : fieldOf Try.prog 133 5 = some (5, 5) := by kernel_rfl
@[simp] theorem tb_fd133_6 : fieldOf Try.prog 133 6 = some (6, 128) := by kernel_rfl
@[simp] theorem tb_fd133_7 : fieldOf Try.prog 133 7 = some (7, 129) := by kernel_rfl
@[simp] theorem tb_fd133_8 : fieldOf Try.prog 133 8 = some (8, 130) := by kernel_rfl
@[simp] theorem tb_fd133_9 : fieldOf Try.prog 133 9 = some (9, 131) := by kernel_rfl
@[simp] theorem tb_fd133_10 : fieldOf Try.prog 133 10 = some (10, 132) := by kernel_rfl
@[simp] theorem tb_sz134 : szOf Try.prog 134 = some 11 := by kernel_rfl
@[simp] theorem tb_ag134 : isAggT Try.prog 134 = some true := by kernel_rfl
@[simp] theorem tb_sl134 : isSl Try.prog 134 = none := by kernel_rfl
@[simp] theorem tb_ar134 : isArr Try.prog 134 = none := by kernel_rfl
@[simp] theorem tb_st134 : isStr Try.prog 134 = false := by kernel_rfl
@[simp] theorem tb_in134 : isInt Try.prog 134 = none := by kernel_rfl
@[simp] theorem tb_u8134 : isU8 Try.prog 134 = false := by kernel_rfl
@[simp] theorem tb_bo134 : isBool Try.prog 134 = false := by kernel_rfl
@[simp] theorem tb_nk134 : nkT Try.prog 134 = none := by kernel_rfl
@[simp] theorem tb_by134 : (Try.prog.info? 134).map (·.bytes) = some 48 := by kernel_rfl
@[simp] theorem tb_un134 : (Try.prog.underlying 134).isSome = true := by kernel_rfl
@[simp] theorem tb_so134 : sizesOk Try.prog 134 = true := by kernel_rfl
@[simp] theorem tb_ze134 : zeroOf Try.prog 134 = some [AV.v (Value.int IntKind.u64 (Int.ofNat 0)), AV.v (Value.int IntKind.u64 (Int.ofNat 0)), AV.v (Value.int IntKind.u32 (Int.ofNat 0)), AV.v (Value.int IntKind.u8 (Int.ofNat 0)), AV.v (Value.int IntKind.u8 (Int.ofNat 0)), AV.v (Value.int IntKind.u8 (Int.ofNat 0)), AV.v (Value.int IntKind.u8 (Int.ofNat 0)), AV.v Value.nilFunc, AV.v (Value.pointer none), AV.v (Value.int IntKind.i32 (Int.ofNat 0)), AV.v (Value.int IntKind.i32 (Int.ofNat 0))] := by kernel_rfl
@[simp] theorem tb_fk134 : flatK Try.prog 40 134 = none := by kernel_rfl
@[simp] theorem tb_eg134 : Try.prog.eqGuardType Try.prog.depth 134 = false := by kernel_rfl
@[simp] theorem tb_fd134_0 : fieldOf Try.prog 134 0 = some (0, 12) := by kernel_rfl
@[simp] theorem tb_fd134_1 : fieldOf Try.prog 134 1 = some (1, 12) := by kernel_rfl
@[simp] theorem tb_fd134_2 : fieldOf Try.prog 134 2 = some (2, 26) := by kernel_rfl
@[simp] theorem tb_fd134_3 : fieldOf Try.prog 134 3 = some (3, 127) := by kernel_rfl
@[simp] theorem tb_fd134_4 : fieldOf Try.prog 134 4 = some (4, 5) := by kernel_rfl
@[simp] theorem tb_fd134_5 : fieldOf Try.prog 134 5 = some (5, 5) := by kernel_rfl
@[simp] theorem tb_fd134_6 : fieldOf Try.prog 134 6 = some (6, 128) := by kernel_rfl
@[simp] theorem tb_fd134_7 : fieldOf Try.prog 134 7 = some (7, 129) := by kernel_rfl
@[simp] theorem tb_fd134_8 : fieldOf Try.prog 134 8 = some (8, 130) := by kernel_rfl
@[simp] theorem tb_fd134_9 : fieldOf Try.prog 134 9 = some (9, 131) := by kernel_rfl
@[simp] theorem tb_fd134_10 : fieldOf Try.prog 134 10 = some (10, 132) := by kernel_rfl
@[simp] theorem tb_sz135 : szOf Try.prog 135 = some 1 := by kernel_rfl
@[simp] theorem tb_ag135 : isAggT Try.prog 135 = some false := by kernel_rfl
@[simp] theorem tb_sl135 : isSl Try.prog 135 = none := by kernel_rfl
@[simp] theorem tb_ar135 : isArr Try.prog 135 = none := by kernel_rfl
@[simp] theorem tb_st135 : isStr Try.prog 135 = false := by kernel_rfl
@[simp] theorem tb_in135 : isInt Try.prog 135 = none := by kernel_rfl
@[simp] theorem tb_u8135 : isU8 Try.prog 135 = false := by kernel_rfl
@[simp] theorem tb_bo135 : isBool Try.prog 135 = false := by kernel_rfl
@[simp] theorem tb_nk135 : nkT Try.prog 135 = none := by kernel_rfl
@[simp] theorem tb_by135 : (Try.prog.info? 135).map (·.bytes) = some 8 := by kernel_rfl
@[simp] theorem tb_un135 : (Try.prog.underlying 135).isSome = true := by kernel_rfl
@[simp] theorem tb_so135 : sizesOk Try.prog 135 = false := by kernel_rfl
@[simp] theorem tb_ze135 : zeroOf Try.prog 135 = some [AV.v (Value.pointer none)] := by kernel_rfl
@[simp] theorem tb_fk135 : flatK Try.prog 40 135 = none := by kernel_rfl
@[simp] theorem tb_eg135 : Try.prog.eqGuardType Try.prog.depth 135 = false := by kernel_rfl
def Dm : Nat → Nat → List Nat
  | 5, 11 => [0, 0, 3, 7, 0, 0, 48, 112, 255, 511, 1023, 2047, 4095, 8191, 16383, 32767, 65535]
  | 5, 24 => [0, 1, 3, 7, 15, 7, 39, 127, 255, 511, 1023, 2047, 4095, 1023, 9215, 25599, 65535, 131071, 262143, 524287, 1048575, 2097151, 524287, 4718591, 13107199, 33554431, 67108863, 134217727, 268435455, 536870911, 1073741823]
  | 6, 10 => [0, 1, 0, 4, 15, 31, 63, 63, 255, 511, 1023, 2047, 4095, 8191, 2047, 18431, 65535, 131071, 262143]
  | 8, 8 => [0, 0, 2, 7, 15, 0, 32, 96, 255, 511, 1023]
  | 10, 14 => [0, 1, 3, 7, 15, 31, 15, 79, 255, 511, 1023, 2047, 4095, 2047, 2047, 18431, 59391, 124927, 262143, 524287, 1048575, 2097151, 4194303, 8388607]
  | 11, 7 => [0, 1, 0, 4, 0, 16, 0, 64, 0, 256, 0, 1024, 0, 4096, 16383, 0, 32768, 131071, 0, 262144, 1048575, 2097151]
  | 11, 9 => [0, 1, 0, 4, 15]
  | 11, 10 => [0, 1, 0, 4, 15]
  | 15, 12 => [0, 1, 0, 7, 0, 31, 0, 127, 0, 256, 768, 1792, 0, 4096, 12288, 0, 33023, 0, 229631, 0, 0, 1572864, 4161791, 8388607, 0, 33554431]
  | 15, 13 => [0, 0, 0, 6, 14, 31, 63, 127]
  | 16, 17 => [0, 0, 0, 0, 8, 28, 62, 127, 255, 511]
  | 17, 1 => [0, 0, 0, 0, 13, 31]
  | 18, 10 => [0, 0, 2, 6, 15, 31, 63]
  | 19, 13 => [0, 0, 0, 4, 14, 31, 63, 127]
  | 22, 8 => [0, 1, 0, 0, 0, 0, 60, 124, 252, 511]
  | 23, 5 => [0, 1, 3, 7, 0, 16, 48, 127, 0, 256, 1023, 0, 2048, 8191, 16383]
  | 23, 8 => [0, 1, 3, 7, 0, 16, 63, 127]
  | 24, 12 => [0, 1, 0, 4, 12, 31]
  | 25, 5 => [0, 1, 3, 7, 0, 16, 48, 127, 0, 256, 768, 1792, 4095, 8191]
  | 25, 8 => [0, 0, 0, 0, 0, 24, 0, 120, 0, 504, 1023, 2047]
  | 27, 5 => [0, 1, 3, 0, 8, 24, 0, 88, 216, 472, 0, 1024, 3072, 0, 8192, 24576, 0, 0, 196608, 458968, 1048575, 0, 4194303]
  | 27, 6 => [0, 1, 0, 4, 15]
  | 27, 7 => [0, 1, 0, 4, 15]
  | 27, 8 => [0, 0, 0, 0, 8, 30, 62, 127, 255, 511]
  | 28, 24 => [0, 1, 3, 0, 8, 24, 0, 64, 0, 256, 768, 0, 2048, 6144, 0, 16384, 49176, 0, 131072, 507928, 1048575, 0, 4194303]
  | 28, 26 => [0, 0, 0, 0, 0, 28, 62, 127, 255, 511]
  | 30, 11 => [0, 0, 0, 0, 0, 16, 48, 112, 0, 256, 0, 1024, 0, 4096, 16369, 32753, 65523, 131059, 262135, 524279, 1048575, 2097151]
  | 30, 16 => [0, 1, 0, 4, 15]
  | 30, 17 => [0, 1, 0, 4, 15]
  | 30, 18 => [0, 1, 0, 4, 15]
  | 31, 4 => [0, 1, 0, 4, 12, 31, 63, 127, 255, 127, 639, 1663, 4095, 8191]
  | 31, 14 => [0, 0, 2, 7, 0, 16, 63, 127]
  | 36, 5 => [0, 1, 3, 7, 15, 31, 0, 64, 192, 448, 1023, 2047]
  | 36, 8 => [0, 1, 3, 0, 0, 24, 63, 127, 255, 255, 255, 511, 3071, 8191]
  | 36, 11 => [0, 1, 3, 7, 0, 16, 48, 112, 255, 0, 512, 1536, 3584, 7680, 15872, 0, 32768, 98304, 229376, 491520, 1048064, 0, 2097152, 6291456, 14680064, 33553920, 0, 67108864, 201326592, 0, 0, 1073741824, 3221225472, 0, 8589934592, 25769803776, 60129542144, 0, 137438953472, 412316860416, 962072674304, 2199023255551, 0, 8796093022207]
  | 36, 13 => [0, 0, 0, 4, 0, 30, 62, 127, 255, 511]
  | 37, 11 => [0, 1, 3, 7, 15, 0, 32, 96, 224, 511, 1023]
  | 37, 18 => [0, 1, 3, 7, 0, 16, 48, 0, 128, 384, 0, 0, 2048, 6144, 16383, 0, 65535]
  | 37, 22 => [0, 0, 0, 0, 12, 30, 63, 127, 255]
  | 39, 8 => [0, 0, 2, 7, 0, 16, 63, 127]
  | 46, 10 => [0, 1, 3, 0, 8, 24, 0, 127, 255, 511]
  | 47, 11 => [0, 1, 3, 0, 8, 24, 0, 127, 255, 511]
  | 51, 6 => [0, 0, 0, 0, 0, 24, 0, 120, 255, 511]
  | 54, 1 => [0, 0, 3, 7, 15, 31, 0, 0, 128, 448, 960, 1984, 4095, 8191]
  | 61, 1 => [0, 0, 3, 7, 15, 31, 0, 0, 128, 448, 960, 1984, 4095, 8191]
  | 63, 1 => [0, 0, 3, 7, 15, 31, 0, 0, 128, 448, 960, 1984, 4095, 8191]
  | 64, 1 => [0, 1, 3, 0, 8, 24, 0, 64, 192, 0, 512, 1536, 4095, 8191]
  | 65, 0 => [0, 0, 0, 0, 8, 0, 32, 96, 0, 256, 227, 1251, 4095, 8191]
  | 67, 9 => [0, 0, 0, 4, 14, 30, 0, 0, 128, 384, 960, 1984, 4095]
  | 71, 12 => [0, 1, 3, 7, 15, 0, 32, 96, 224, 511, 1023]
  | 72, 10 => [0, 1, 0, 4, 15]
  | 72, 11 => [0, 1, 0, 4, 15]
  | 72, 12 => [0, 1, 3, 0, 8, 31, 63, 127, 127, 127, 255, 1535, 4095]
  | 72, 16 => [0, 0, 0, 4, 14, 1, 63, 127]
  | 72, 25 => [0, 1, 0, 4, 15]
  | 72, 26 => [0, 1, 0, 4, 15]
  | 72, 27 => [0, 0, 0, 6, 1, 31, 63]
  | 74, 6 => [0, 1, 3, 0, 8, 31, 63, 127, 127, 127, 255, 1535, 4095]
  | 78, 3 => [0, 0, 3, 0, 15, 0, 63]
  | 78, 5 => [0, 0, 3, 0, 15, 0, 63]
  | 81, 5 => [0, 0, 3, 0, 15, 31]
  | 81, 7 => [0, 0, 3, 0, 15, 31]
  | _, _ => []
@[simp] theorem dm_5_11 : Dm 5 11 = [0, 0, 3, 7, 0, 0, 48, 112, 255, 511, 1023, 2047, 4095, 8191, 16383, 32767, 65535] := rfl
@[simp] theorem dm_5_24 : Dm 5 24 = [0, 1, 3, 7, 15, 7, 39, 127, 255, 511, 1023, 2047, 4095, 1023, 9215, 25599, 65535, 131071, 262143, 524287, 1048575, 2097151, 524287, 4718591, 13107199, 33554431, 67108863, 134217727, 268435455, 536870911, 1073741823] := rfl
@[simp] theorem dm_6_10 : Dm 6 10 = [0, 1, 0, 4, 15, 31, 63, 63, 255, 511, 1023, 2047, 4095, 8191, 2047, 18431, 65535, 131071, 262143] := rfl
@[simp] theorem dm_8_8 : Dm 8 8 = [0, 0, 2, 7, 15, 0, 32, 96, 255, 511, 1023] := rfl
@[simp] theorem dm_10_14 : Dm 10 14 = [0, 1, 3, 7, 15, 31, 15, 79, 255, 511, 1023, 2047, 4095, 2047, 2047, 18431, 59391, 124927, 262143, 524287, 1048575, 2097151, 4194303, 8388607] := rfl
@[simp] theorem dm_11_7 : Dm 11 7 = [0, 1, 0, 4, 0, 16, 0, 64, 0, 256, 0, 1024, 0, 4096, 16383, 0, 32768, 131071, 0, 262144, 1048575, 2097151] := rfl
@[simp] theorem dm_11_9 : Dm 11 9 = [0, 1, 0, 4, 15] := rfl
@[simp] theorem dm_11_10 : Dm 11 10 = [0, 1, 0, 4, 15] := rfl
@[simp] theorem dm_15_12 : Dm 15 12 = [0, 1, 0, 7, 0, 31, 0, 127, 0, 256, 768, 1792, 0, 4096, 12288, 0, 33023, 0, 229631, 0, 0, 1572864, 4161791, 8388607, 0, 33554431] := rfl
@[simp] theorem dm_15_13 : Dm 15 13 = [0, 0, 0, 6, 14, 31, 63, 127] := rfl
@[simp] theorem dm_16_17 : Dm 16 17 = [0, 0, 0, 0, 8, 28, 62, 127, 255, 511] := rfl
@[simp] theorem dm_17_1 : Dm 17 1 = [0, 0, 0, 0, 13, 31] := rfl
@[simp] theorem dm_18_10 : Dm 18 10 = [0, 0, 2, 6, 15, 31, 63] := rfl
@[simp] theorem dm_19_13 : Dm 19 13 = [0, 0, 0, 4, 14, 31, 63, 127] := rfl
@[simp] theorem dm_22_8 : Dm 22 8 = [0, 1, 0, 0, 0, 0, 60, 124, 252, 511] := rfl
@[simp] theorem dm_23_5 : Dm 23 5 = [0, 1, 3, 7, 0, 16, 48, 127, 0, 256, 1023, 0, 2048, 8191, 16383] := rfl
@[simp] theorem dm_23_8 : Dm 23 8 = [0, 1, 3, 7, 0, 16, 63, 127] := rfl
@[simp] theorem dm_24_12 : Dm 24 12 = [0, 1, 0, 4, 12, 31] := rfl
@[simp] theorem dm_25_5 : Dm 25 5 = [0, 1, 3, 7, 0, 16, 48, 127, 0, 256, 768, 1792, 4095, 8191] := rfl
@[simp] theorem dm_25_8 : Dm 25 8 = [0, 0, 0, 0, 0, 24, 0, 120, 0, 504, 1023, 2047] := rfl
@[simp] theorem dm_27_5 : Dm 27 5 = [0, 1, 3, 0, 8, 24, 0, 88, 216, 472, 0, 1024, 3072, 0, 8192, 24576, 0, 0, 196608, 458968, 1048575, 0, 4194303] := rfl
@[simp] theorem dm_27_6 : Dm 27 6 = [0, 1, 0, 4, 15] := rfl
@[simp] theorem dm_27_7 : Dm 27 7 = [0, 1, 0, 4, 15] := rfl
@[simp] theorem dm_27_8 : Dm 27 8 = [0, 0, 0, 0, 8, 30, 62, 127, 255, 511] := rfl
@[simp] theorem dm_28_24 : Dm 28 24 = [0, 1, 3, 0, 8, 24, 0, 64, 0, 256, 768, 0, 2048, 6144, 0, 16384, 49176, 0, 131072, 507928, 1048575, 0, 4194303] := rfl
@[simp] theorem dm_28_26 : Dm 28 26 = [0, 0, 0, 0, 0, 28, 62, 127, 255, 511] := rfl
@[simp] theorem dm_30_11 : Dm 30 11 = [0, 0, 0, 0, 0, 16, 48, 112, 0, 256, 0, 1024, 0, 4096, 16369, 32753, 65523, 131059, 262135, 524279, 1048575, 2097151] := rfl
@[simp] theorem dm_30_16 : Dm 30 16 = [0, 1, 0, 4, 15] := rfl
@[simp] theorem dm_30_17 : Dm 30 17 = [0, 1, 0, 4, 15] := rfl
@[simp] theorem dm_30_18 : Dm 30 18 = [0, 1, 0, 4, 15] := rfl
@[simp] theorem dm_31_4 : Dm 31 4 = [0, 1, 0, 4, 12, 31, 63, 127, 255, 127, 639, 1663, 4095, 8191] := rfl
@[simp] theorem dm_31_14 : Dm 31 14 = [0, 0, 2, 7, 0, 16, 63, 127] := rfl
@[simp] theorem dm_36_5 : Dm 36 5 = [0, 1, 3, 7, 15, 31, 0, 64, 192, 448, 1023, 2047] := rfl
@[simp] theorem dm_36_8 : Dm 36 8 = [0, 1, 3, 0, 0, 24, 63, 127, 255, 255, 255, 511, 3071, 8191] := rfl
@[simp] theorem dm_36_11 : Dm 36 11 = [0, 1, 3, 7, 0, 16, 48, 112, 255, 0, 512, 1536, 3584, 7680, 15872, 0, 32768, 98304, 229376, 491520, 1048064, 0, 2097152, 6291456, 14680064, 33553920, 0, 67108864, 201326592, 0, 0, 1073741824, 3221225472, 0, 8589934592, 25769803776, 60129542144, 0, 137438953472, 412316860416, 962072674304, 2199023255551, 0, 8796093022207] := rfl
@[simp] theorem dm_36_13 : Dm 36 13 = [0, 0, 0, 4, 0, 30, 62, 127, 255, 511] := rfl
@[simp] theorem dm_37_11 : Dm 37 11 = [0, 1, 3, 7, 15, 0, 32, 96, 224, 511, 1023] := rfl
@[simp] theorem dm_37_18 : Dm 37 18 = [0, 1, 3, 7, 0, 16, 48, 0, 128, 384, 0, 0, 2048, 6144, 16383, 0, 65535] := rfl
@[simp] theorem dm_37_22 : Dm 37 22 = [0, 0, 0, 0, 12, 30, 63, 127, 255] := rfl
@[simp] theorem dm_39_8 : Dm 39 8 = [0, 0, 2, 7, 0, 16, 63, 127] := rfl
@[simp] theorem dm_46_10 : Dm 46 10 = [0, 1, 3, 0, 8, 24, 0, 127, 255, 511] := rfl
@[simp] theorem dm_47_11 : Dm 47 11 = [0, 1, 3, 0, 8, 24, 0, 127, 255, 511] := rfl
@[simp] theorem dm_51_6 : Dm 51 6 = [0, 0, 0, 0, 0, 24, 0, 120, 255, 511] := rfl
@[simp] theorem dm_54_1 : Dm 54 1 = [0, 0, 3, 7, 15, 31, 0, 0, 128, 448, 960, 1984, 4095, 8191] := rfl
@[simp] theorem dm_61_1 : Dm 61 1 = [0, 0, 3, 7, 15, 31, 0, 0, 128, 448, 960, 1984, 4095, 8191] := rfl
@[simp] theorem dm_63_1 : Dm 63 1 = [0, 0, 3, 7, 15, 31, 0, 0, 128, 448, 960, 1984, 4095, 8191] := rfl
@[simp] theorem dm_64_1 : Dm 64 1 = [0, 1, 3, 0, 8, 24, 0, 64, 192, 0, 512, 1536, 4095, 8191] := rfl
@[simp] theorem dm_65_0 : Dm 65 0 = [0, 0, 0, 0, 8, 0, 32, 96, 0, 256, 227, 1251, 4095, 8191] := rfl
@[simp] theorem dm_67_9 : Dm 67 9 = [0, 0, 0, 4, 14, 30, 0, 0, 128, 384, 960, 1984, 4095] := rfl
@[simp] theorem dm_71_12 : Dm 71 12 = [0, 1, 3, 7, 15, 0, 32, 96, 224, 511, 1023] := rfl
@[simp] theorem dm_72_10 : Dm 72 10 = [0, 1, 0, 4, 15] := rfl
@[simp] theorem dm_72_11 : Dm 72 11 = [0, 1, 0, 4, 15] := rfl
@[simp] theorem dm_72_12 : Dm 72 12 = [0, 1, 3, 0, 8, 31, 63, 127, 127, 127, 255, 1535, 4095] := rfl
@[simp] theorem dm_72_16 : Dm 72 16 = [0, 0, 0, 4, 14, 1, 63, 127] := rfl
@[simp] theorem dm_72_25 : Dm 72 25 = [0, 1, 0, 4, 15] := rfl
@[simp] theorem dm_72_26 : Dm 72 26 = [0, 1, 0, 4, 15] := rfl
@[simp] theorem dm_72_27 : Dm 72 27 = [0, 0, 0, 6, 1, 31, 63] := rfl
@[simp] theorem dm_74_6 : Dm 74 6 = [0, 1, 3, 0, 8, 31, 63, 127, 127, 127, 255, 1535, 4095] := rfl
@[simp] theorem dm_78_3 : Dm 78 3 = [0, 0, 3, 0, 15, 0, 63] := rfl
@[simp] theorem dm_78_5 : Dm 78 5 = [0, 0, 3, 0, 15, 0, 63] := rfl
@[simp] theorem dm_81_5 : Dm 81 5 = [0, 0, 3, 0, 15, 31] := rfl
@[simp] theorem dm_81_7 : Dm 81 7 = [0, 0, 3, 0, 15, 31] := rfl
theorem follows_mixed : Try.prog.follows .mixedOrders = true := by kernel_rfl
noncomputable def drawCheck : Bool := Try.prog.funcs.toList.zipIdx.all fun p => match p.1.body with | some b => (drawsOf b).all fun q => drawStatic q.2 (Dm p.2 q.1) | none => true
theorem drawCheck_ok : drawCheck = true := by kernel_rfl
theorem dm_ok : DOk Try.prog Dm := by
  intro f fn body hf hb p hp
  have h := List.all_eq_true.1 drawCheck_ok (fn, f) (by rw [List.mem_zipIdx_iff_getElem?]; simpa using hf)
  simp only [hb] at h
  exact drawStatic_ok (List.all_eq_true.1 h p hp)
end Go.Proofs.Ytcbjjkpjbdcakaa
