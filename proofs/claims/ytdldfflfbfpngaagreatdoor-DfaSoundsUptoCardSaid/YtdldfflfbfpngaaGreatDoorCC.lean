/- The abstract machine's code of some functions. Written by program. The abstract machine's code of some functions. Written by program. -/
import Derived.Test.YtdldfflfbfpngaaGreatDoorB2
namespace Go.Proofs.YtdldfflfbfpngaaGreatDoor
open Go
def d_strconv_AppendInt : DFunc := ⟨[.tmp 6],
 (.seq (.ops [⟨some 6, .mv (.const (.rd 0 [] true)), none⟩])
 (.seq (.ops [⟨some 7, .mv (.tmp 0), none⟩,
 ⟨some 8, .mv (.tmp 1), none⟩,
 ⟨some 9, .mv (.tmp 2), none⟩,
 ⟨some 10, .call 0 124 [(.tmp 7), (.tmp 8), (.tmp 9)], none⟩,
 ⟨some 6, .mv (.tmp 10), none⟩])
 .ret))⟩
def d_internal_strconv_AppendInt : DFunc := ⟨[.tmp 6],
 (.seq (.ops [⟨some 6, .mv (.const (.rd 0 [] true)), none⟩])
 (.seq (.ops [⟨some 8, .mv (.tmp 1), none⟩,
 ⟨some 9, .conv .u64 (.tmp 8), none⟩,
 ⟨some 7, .mv (.tmp 9), none⟩])
 (.seq (.seq (.ops [⟨some 10, .mv (.tmp 1), none⟩,
 ⟨some 11, .bin .lss (.tmp 10) (.const (.int .i64 0)), none⟩])
 (.cond (.tmp 11)
 (.seq (.ops [⟨some 12, .mv (.tmp 0), none⟩,
 ⟨some 13, .lit 1 1 [(.int .u8 0)] [(0, 1, (.const (.int .u8 45)))], none⟩,
 ⟨some 14, .append 1 (.tmp 12) (.tmp 13), none⟩,
 ⟨some 0, .mv (.tmp 14), none⟩])
 (.ops [⟨some 15, .mv (.tmp 7), none⟩,
 ⟨some 16, .un .neg (.tmp 15), none⟩,
 ⟨some 7, .mv (.tmp 16), none⟩]))
 .skip))
 (.seq (.ops [⟨some 17, .mv (.tmp 0), none⟩,
 ⟨some 18, .mv (.tmp 7), none⟩,
 ⟨some 19, .mv (.tmp 2), none⟩,
 ⟨some 20, .call 0 127 [(.tmp 17), (.tmp 18), (.tmp 19)], none⟩,
 ⟨some 6, .mv (.tmp 20), none⟩])
 .ret))))⟩
def d_internal_strconv_AppendUint : DFunc := ⟨[.tmp 6],
 (.seq (.ops [⟨some 6, .mv (.const (.rd 0 [] true)), none⟩])
 (.seq (.seq (.ops [⟨some 9, .mv (.tmp 2), none⟩,
 ⟨some 10, .bin .eql (.tmp 9) (.const (.int .i64 10)), none⟩])
 (.cond (.tmp 10)
 (.seq (.seq (.ops [⟨some 11, .mv (.tmp 1), none⟩,
 ⟨some 12, .bin .lss (.tmp 11) (.const (.int .u64 100)), none⟩])
 (.cond (.tmp 12)
 (.seq (.ops [⟨some 13, .mv (.tmp 0), none⟩,
 ⟨some 14, .mv (.tmp 1), none⟩,
 ⟨some 15, .conv .i64 (.tmp 14), none⟩,
 ⟨some 16, .call 0 137 [(.tmp 15)], none⟩,
 ⟨some 17, .append 1 (.tmp 13) (.tmp 16), none⟩,
 ⟨some 6, .mv (.tmp 17), none⟩])
 .ret)
 .skip))
 (.seq (.ops [⟨some 7, .alloc [(.int .u8 0), (.int .u8 0), (.int .u8 0), (.int .u8 0), (.int .u8 0), (.int .u8 0), (.int .u8 0), (.int .u8 0), (.int .u8 0), (.int .u8 0), (.int .u8 0), (.int .u8 0), (.int .u8 0), (.int .u8 0), (.int .u8 0), (.int .u8 0), (.int .u8 0), (.int .u8 0), (.int .u8 0), (.int .u8 0), (.int .u8 0), (.int .u8 0), (.int .u8 0), (.int .u8 0)], none⟩])
 (.seq (.ops [⟨some 18, .mv (.tmp 1), none⟩,
 ⟨some 19, .call 0 138 [(.tmp 18)], none⟩,
 ⟨some 8, .mv (.tmp 19), none⟩])
 (.seq (.ops [⟨some 20, .mv (.tmp 8), none⟩,
 ⟨some 21, .sliceA 24 1 (.tmp 7) none (some (.tmp 20)), none⟩,
 ⟨some 22, .mv (.tmp 1), none⟩,
 ⟨some 23, .call 0 139 [(.tmp 21), (.tmp 22)], none⟩])
 (.seq (.ops [⟨some 24, .mv (.tmp 0), none⟩,
 ⟨some 25, .mv (.tmp 8), none⟩,
 ⟨some 26, .sliceA 24 1 (.tmp 7) none (some (.tmp 25)), none⟩,
 ⟨some 27, .append 1 (.tmp 24) (.tmp 26), none⟩,
 ⟨some 6, .mv (.tmp 27), none⟩])
 .ret)))))
 .skip))
 (.seq (.ops [⟨some 29, .mv (.tmp 0), none⟩,
 ⟨some 30, .mv (.tmp 1), none⟩,
 ⟨some 31, .mv (.tmp 2), none⟩,
 ⟨some 32, .call 0 140 [(.tmp 29), (.tmp 30), (.tmp 31), (.const (.bool false)), (.const (.bool true))], none⟩,
 ⟨some 28, .mv (.tmp 32), none⟩,
 ⟨some 33, .extract (.tmp 28) 0, none⟩,
 ⟨some 34, .extract (.tmp 28) 1, none⟩,
 ⟨some 0, .mv (.tmp 33), none⟩])
 (.seq (.ops [⟨some 35, .mv (.tmp 0), none⟩,
 ⟨some 6, .mv (.tmp 35), none⟩])
 .ret))))⟩
def d_internal_strconv_formatBits : DFunc := ⟨[.tmp 10, .tmp 11],
 (.seq (.ops [⟨some 10, .mv (.const (.rd 0 [] true)), none⟩,
 ⟨some 11, .mv (.const (.str [])), none⟩])
 (.seq (.seq (.ops [⟨some 19, .mv (.tmp 2), none⟩,
 ⟨some 20, .bin .lss (.tmp 19) (.const (.int .i64 2)), none⟩,
 ⟨some 21, .mv (.tmp 20), none⟩,
 ⟨some 22, .mv (.tmp 2), (some (21, false))⟩,
 ⟨some 23, .bin .eql (.tmp 22) (.const (.int .i64 10)), (some (21, false))⟩,
 ⟨some 24, .pick (.tmp 21) (.const (.bool true)) (.tmp 23), none⟩,
 ⟨some 25, .mv (.tmp 24), none⟩,
 ⟨some 26, .mv (.tmp 2), (some (25, false))⟩,
 ⟨some 27, .bin .gtr (.tmp 26) (.const (.int .i64 36)), (some (25, false))⟩,
 ⟨some 28, .pick (.tmp 25) (.const (.bool true)) (.tmp 27), none⟩])
 (.cond (.tmp 28)
 (.ops [⟨some 29, .stuck, none⟩,
 ⟨none, .stuck, none⟩])
 .skip))
 (.seq (.ops [⟨some 12, .alloc [(.int .u8 0), (.int .u8 0), (.int .u8 0), (.int .u8 0), (.int .u8 0), (.int .u8 0), (.int .u8 0), (.int .u8 0), (.int .u8 0), (.int .u8 0), (.int .u8 0), (.int .u8 0), (.int .u8 0), (.int .u8 0), (.int .u8 0), (.int .u8 0), (.int .u8 0), (.int .u8 0), (.int .u8 0), (.int .u8 0), (.int .u8 0), (.int .u8 0), (.int .u8 0), (.int .u8 0), (.int .u8 0), (.int .u8 0), (.int .u8 0), (.int .u8 0), (.int .u8 0), (.int .u8 0), (.int .u8 0), (.int .u8 0), (.int .u8 0), (.int .u8 0), (.int .u8 0), (.int .u8 0), (.int .u8 0), (.int .u8 0), (.int .u8 0), (.int .u8 0), (.int .u8 0), (.int .u8 0), (.int .u8 0), (.int .u8 0), (.int .u8 0), (.int .u8 0), (.int .u8 0), (.int .u8 0), (.int .u8 0), (.int .u8 0), (.int .u8 0), (.int .u8 0), (.int .u8 0), (.int .u8 0), (.int .u8 0), (.int .u8 0), (.int .u8 0), (.int .u8 0), (.int .u8 0), (.int .u8 0), (.int .u8 0), (.int .u8 0), (.int .u8 0), (.int .u8 0), (.int .u8 0)], none⟩])
 (.seq (.ops [⟨some 13, .mv (.const (.int .i64 65)), none⟩])
 (.seq (.seq (.ops [⟨some 30, .mv (.tmp 3), none⟩])
 (.cond (.tmp 30)
 (.ops [⟨some 31, .mv (.tmp 1), none⟩,
 ⟨some 32, .un .neg (.tmp 31), none⟩,
 ⟨some 1, .mv (.tmp 32), none⟩])
 .skip))
 (.seq (.seq (.ops [⟨some 33, .mv (.tmp 2), none⟩,
 ⟨some 34, .call 0 146 [(.tmp 33)], none⟩])
 (.cond (.tmp 34)
 (.seq (.ops [⟨some 35, .mv (.tmp 2), none⟩,
 ⟨some 36, .conv .u64 (.tmp 35), none⟩,
 ⟨some 37, .call 0 147 [(.tmp 36)], none⟩,
 ⟨some 38, .conv .u64 (.tmp 37), none⟩,
 ⟨some 14, .mv (.tmp 38), none⟩])
 (.seq (.ops [⟨some 39, .mv (.tmp 2), none⟩,
 ⟨some 40, .conv .u64 (.tmp 39), none⟩,
 ⟨some 15, .mv (.tmp 40), none⟩])
 (.seq (.ops [⟨some 41, .mv (.tmp 2), none⟩,
 ⟨some 42, .conv .u64 (.tmp 41), none⟩,
 ⟨some 43, .bin .sub (.tmp 42) (.const (.int .u64 1)), none⟩,
 ⟨some 16, .mv (.tmp 43), none⟩])
 (.seq (.block 0
 (.loop
 (.seq (.seq (.ops [⟨some 44, .mv (.tmp 1), none⟩,
 ⟨some 45, .mv (.tmp 15), none⟩,
 ⟨some 46, .bin .geq (.tmp 44) (.tmp 45), none⟩])
 (.cond (.tmp 46)
 .skip
 (.exit 0)))
 (.block 1
 (.seq (.ops [⟨some 47, .mv (.tmp 13), none⟩,
 ⟨some 48, .bin .sub (.tmp 47) (.const (.int .i64 1)), none⟩,
 ⟨some 13, .mv (.tmp 48), none⟩])
 (.seq (.ops [⟨some 49, .mv (.tmp 13), none⟩,
 ⟨some 50, .mv (.tmp 1), none⟩,
 ⟨some 51, .mv (.tmp 16), none⟩,
 ⟨some 52, .bin .and (.tmp 50) (.tmp 51), none⟩,
 ⟨some 53, .indexStr (.const (.str [48, 49, 50, 51, 52, 53, 54, 55, 56, 57, 97, 98, 99, 100, 101, 102, 103, 104, 105, 106, 107, 108, 109, 110, 111, 112, 113, 114, 115, 116, 117, 118, 119, 120, 121, 122])) (.tmp 52), none⟩,
 ⟨some 54, .indexAddrA 65 1 (.tmp 12) (.tmp 49), none⟩,
 ⟨none, .store 1 (.tmp 54) (.tmp 53), none⟩])
 (.ops [⟨some 55, .mv (.tmp 1), none⟩,
 ⟨some 56, .mv (.tmp 14), none⟩,
 ⟨some 57, .bin .shr (.tmp 55) (.tmp 56), none⟩,
 ⟨some 1, .mv (.tmp 57), none⟩])))))))
 (.seq (.ops [⟨some 58, .mv (.tmp 13), none⟩,
 ⟨some 59, .bin .sub (.tmp 58) (.const (.int .i64 1)), none⟩,
 ⟨some 13, .mv (.tmp 59), none⟩])
 (.ops [⟨some 60, .mv (.tmp 13), none⟩,
 ⟨some 61, .mv (.tmp 1), none⟩,
 ⟨some 62, .indexStr (.const (.str [48, 49, 50, 51, 52, 53, 54, 55, 56, 57, 97, 98, 99, 100, 101, 102, 103, 104, 105, 106, 107, 108, 109, 110, 111, 112, 113, 114, 115, 116, 117, 118, 119, 120, 121, 122])) (.tmp 61), none⟩,
 ⟨some 63, .indexAddrA 65 1 (.tmp 12) (.tmp 60), none⟩,
 ⟨none, .store 1 (.tmp 63) (.tmp 62), none⟩]))))))
 (.seq (.ops [⟨some 64, .mv (.tmp 2), none⟩,
 ⟨some 65, .conv .u64 (.tmp 64), none⟩,
 ⟨some 17, .mv (.tmp 65), none⟩])
 (.seq (.block 2
 (.loop
 (.seq (.seq (.ops [⟨some 66, .mv (.tmp 1), none⟩,
 ⟨some 67, .mv (.tmp 17), none⟩,
 ⟨some 68, .bin .geq (.tmp 66) (.tmp 67), none⟩])
 (.cond (.tmp 68)
 .skip
 (.exit 2)))
 (.block 3
 (.seq (.ops [⟨some 69, .mv (.tmp 13), none⟩,
 ⟨some 70, .bin .sub (.tmp 69) (.const (.int .i64 1)), none⟩,
 ⟨some 13, .mv (.tmp 70), none⟩])
 (.seq (.ops [⟨some 71, .mv (.tmp 1), none⟩,
 ⟨some 72, .mv (.tmp 17), none⟩,
 ⟨some 73, .bin .quo (.tmp 71) (.tmp 72), none⟩,
 ⟨some 18, .mv (.tmp 73), none⟩])
 (.seq (.ops [⟨some 74, .mv (.tmp 13), none⟩,
 ⟨some 75, .mv (.tmp 1), none⟩,
 ⟨some 76, .mv (.tmp 18), none⟩,
 ⟨some 77, .mv (.tmp 17), none⟩,
 ⟨some 78, .bin .mul (.tmp 76) (.tmp 77), none⟩,
 ⟨some 79, .bin .sub (.tmp 75) (.tmp 78), none⟩,
 ⟨some 80, .indexStr (.const (.str [48, 49, 50, 51, 52, 53, 54, 55, 56, 57, 97, 98, 99, 100, 101, 102, 103, 104, 105, 106, 107, 108, 109, 110, 111, 112, 113, 114, 115, 116, 117, 118, 119, 120, 121, 122])) (.tmp 79), none⟩,
 ⟨some 81, .indexAddrA 65 1 (.tmp 12) (.tmp 74), none⟩,
 ⟨none, .store 1 (.tmp 81) (.tmp 80), none⟩])
 (.ops [⟨some 82, .mv (.tmp 18), none⟩,
 ⟨some 1, .mv (.tmp 82), none⟩]))))))))
 (.seq (.ops [⟨some 83, .mv (.tmp 13), none⟩,
 ⟨some 84, .bin .sub (.tmp 83) (.const (.int .i64 1)), none⟩,
 ⟨some 13, .mv (.tmp 84), none⟩])
 (.ops [⟨some 85, .mv (.tmp 13), none⟩,
 ⟨some 86, .mv (.tmp 1), none⟩,
 ⟨some 87, .indexStr (.const (.str [48, 49, 50, 51, 52, 53, 54, 55, 56, 57, 97, 98, 99, 100, 101, 102, 103, 104, 105, 106, 107, 108, 109, 110, 111, 112, 113, 114, 115, 116, 117, 118, 119, 120, 121, 122])) (.tmp 86), none⟩,
 ⟨some 88, .indexAddrA 65 1 (.tmp 12) (.tmp 85), none⟩,
 ⟨none, .store 1 (.tmp 88) (.tmp 87), none⟩]))))))
 (.seq (.seq (.ops [⟨some 89, .mv (.tmp 3), none⟩])
 (.cond (.tmp 89)
 (.seq (.ops [⟨some 90, .mv (.tmp 13), none⟩,
 ⟨some 91, .bin .sub (.tmp 90) (.const (.int .i64 1)), none⟩,
 ⟨some 13, .mv (.tmp 91), none⟩])
 (.ops [⟨some 92, .mv (.tmp 13), none⟩,
 ⟨some 93, .indexAddrA 65 1 (.tmp 12) (.tmp 92), none⟩,
 ⟨none, .store 1 (.tmp 93) (.const (.int .u8 45)), none⟩]))
 .skip))
 (.seq (.seq (.ops [⟨some 94, .mv (.tmp 4), none⟩])
 (.cond (.tmp 94)
 (.seq (.ops [⟨some 95, .mv (.tmp 0), none⟩,
 ⟨some 96, .mv (.tmp 13), none⟩,
 ⟨some 97, .sliceA 65 1 (.tmp 12) (some (.tmp 96)) none, none⟩,
 ⟨some 98, .append 1 (.tmp 95) (.tmp 97), none⟩,
 ⟨some 10, .mv (.tmp 98), none⟩])
 .ret)
 .skip))
 (.seq (.ops [⟨some 99, .mv (.tmp 13), none⟩,
 ⟨some 100, .sliceA 65 1 (.tmp 12) (some (.tmp 99)) none, none⟩,
 ⟨some 101, .strOf (.tmp 100), none⟩,
 ⟨some 11, .mv (.tmp 101), none⟩])
 .ret)))))))))⟩
def d_internal_strconv_isPowerOfTwo : DFunc := ⟨[.tmp 2],
 (.seq (.ops [⟨some 2, .mv (.const (.bool false)), none⟩])
 (.seq (.ops [⟨some 3, .mv (.tmp 0), none⟩,
 ⟨some 4, .mv (.tmp 0), none⟩,
 ⟨some 5, .bin .sub (.tmp 4) (.const (.int .i64 1)), none⟩,
 ⟨some 6, .bin .and (.tmp 3) (.tmp 5), none⟩,
 ⟨some 7, .bin .eql (.tmp 6) (.const (.int .i64 0)), none⟩,
 ⟨some 2, .mv (.tmp 7), none⟩])
 .ret))⟩
def d_glyphcutter_dfa_Sound : DFunc := ⟨[.tmp 2],
 (.seq (.ops [⟨some 1, .box (.tmp 0), none⟩,
 ⟨some 2, .mv (.const (.bool false)), none⟩])
 (.seq (.ops [⟨some 7, .fieldAddr 2 (.tmp 1), none⟩,
 ⟨some 8, .load false 1 false (.tmp 7), none⟩,
 ⟨some 9, .len 0 (.tmp 8), none⟩,
 ⟨some 3, .alloc [(.int .i64 0)], none⟩,
 ⟨none, .store 1 (.tmp 3) (.tmp 9), none⟩])
 (.seq (.seq (.ops [⟨some 10, .fieldAddr 0 (.tmp 1), none⟩,
 ⟨some 11, .load false 1 false (.tmp 10), none⟩,
 ⟨some 12, .len 0 (.tmp 11), none⟩,
 ⟨some 13, .bin .gtr (.tmp 12) (.const (.int .i64 2000)), none⟩,
 ⟨some 14, .mv (.tmp 13), none⟩,
 ⟨some 15, .load false 1 false (.tmp 3), (some (14, false))⟩,
 ⟨some 16, .bin .eql (.tmp 15) (.const (.int .i64 0)), (some (14, false))⟩,
 ⟨some 17, .pick (.tmp 14) (.const (.bool true)) (.tmp 16), none⟩,
 ⟨some 18, .mv (.tmp 17), none⟩,
 ⟨some 19, .load false 1 false (.tmp 3), (some (18, false))⟩,
 ⟨some 20, .bin .gtr (.tmp 19) (.const (.int .i64 2000)), (some (18, false))⟩,
 ⟨some 21, .pick (.tmp 18) (.const (.bool true)) (.tmp 20), none⟩,
 ⟨some 22, .mv (.tmp 21), none⟩,
 ⟨some 23, .fieldAddr 1 (.tmp 1), (some (22, false))⟩,
 ⟨some 24, .load false 1 false (.tmp 23), (some (22, false))⟩,
 ⟨some 25, .len 0 (.tmp 24), (some (22, false))⟩,
 ⟨some 26, .load false 1 false (.tmp 3), (some (22, false))⟩,
 ⟨some 27, .bin .neq (.tmp 25) (.tmp 26), (some (22, false))⟩,
 ⟨some 28, .pick (.tmp 22) (.const (.bool true)) (.tmp 27), none⟩,
 ⟨some 29, .mv (.tmp 28), none⟩,
 ⟨some 30, .fieldAddr 0 (.tmp 1), (some (29, false))⟩,
 ⟨some 31, .load false 1 false (.tmp 30), (some (29, false))⟩,
 ⟨some 32, .call 0 113 [(.tmp 31)], (some (29, false))⟩,
 ⟨some 33, .un .not (.tmp 32), (some (29, false))⟩,
 ⟨some 34, .pick (.tmp 29) (.const (.bool true)) (.tmp 33), none⟩])
 (.cond (.tmp 34)
 (.seq (.ops [⟨some 2, .mv (.const (.bool false)), none⟩])
 .ret)
 .skip))
 (.seq (.ops [⟨some 35, .mkfn 114 [(.tmp 3)], none⟩,
 ⟨some 4, .mv (.tmp 35), none⟩])
 (.seq (.seq (.ops [⟨some 36, .fieldAddr 1 (.tmp 1), none⟩,
 ⟨some 37, .load false 1 false (.tmp 36), none⟩,
 ⟨some 38, .len 0 (.tmp 37), none⟩,
 ⟨some 39, .mv (.const (.int .i64 0)), none⟩])
 (.block 0
 (.loop
 (.seq (.ops [⟨some 40, .bin .lss (.tmp 39) (.tmp 38), none⟩])
 (.seq (.cond (.tmp 40)
 .skip
 (.exit 0))
 (.seq (.block 1
 (.seq (.ops [⟨some 41, .mv (.tmp 39), none⟩,
 ⟨some 42, .indexAddr 1 (.tmp 37) (.tmp 39), none⟩,
 ⟨some 43, .load false 1 false (.tmp 42), none⟩,
 ⟨some 5, .mv (.tmp 41), none⟩,
 ⟨some 6, .mv (.tmp 43), none⟩])
 (.seq (.ops [⟨some 44, .mv (.tmp 6), none⟩,
 ⟨some 45, .len 0 (.tmp 44), none⟩,
 ⟨some 46, .fieldAddr 0 (.tmp 1), none⟩,
 ⟨some 47, .load false 1 false (.tmp 46), none⟩,
 ⟨some 48, .len 0 (.tmp 47), none⟩,
 ⟨some 49, .bin .neq (.tmp 45) (.tmp 48), none⟩,
 ⟨some 50, .mv (.tmp 49), none⟩,
 ⟨some 51, .fieldAddr 2 (.tmp 1), (some (50, false))⟩,
 ⟨some 52, .load false 1 false (.tmp 51), (some (50, false))⟩,
 ⟨some 53, .mv (.tmp 5), (some (50, false))⟩,
 ⟨some 54, .indexAddr 1 (.tmp 52) (.tmp 53), (some (50, false))⟩,
 ⟨some 55, .load false 1 false (.tmp 54), (some (50, false))⟩,
 ⟨some 56, .bin .lss (.tmp 55) (.const (.int .i64 (-1))), (some (50, false))⟩,
 ⟨some 57, .pick (.tmp 50) (.const (.bool true)) (.tmp 56), none⟩,
 ⟨some 58, .mv (.tmp 57), none⟩,
 ⟨some 59, .mv (.tmp 6), (some (58, false))⟩,
 ⟨some 60, .mv (.tmp 4), (some (58, false))⟩,
 ⟨some 61, .call 0 40 [(.tmp 59), (.tmp 60)], (some (58, false))⟩,
 ⟨some 62, .pick (.tmp 58) (.const (.bool true)) (.tmp 61), none⟩])
 (.cond (.tmp 62)
 (.seq (.ops [⟨some 2, .mv (.const (.bool false)), none⟩])
 .ret)
 .skip))))
 (.ops [⟨some 63, .bin .add (.tmp 39) (.const (.int .i64 1)), none⟩,
 ⟨some 39, .mv (.tmp 63), none⟩])))))))
 (.seq (.ops [⟨some 2, .mv (.const (.bool true)), none⟩])
 .ret))))))⟩
def d_glyphcutter_dfa_apart : DFunc := ⟨[.tmp 2],
 (.seq (.ops [⟨some 2, .mv (.const (.bool false)), none⟩])
 (.seq (.ops [⟨some 3, .mv (.const (.int .i64 0)), none⟩])
 (.seq (.seq (.ops [⟨some 6, .mv (.tmp 0), none⟩,
 ⟨some 7, .len 0 (.tmp 6), none⟩,
 ⟨some 8, .mv (.const (.int .i64 0)), none⟩])
 (.block 0
 (.loop
 (.seq (.ops [⟨some 9, .bin .lss (.tmp 8) (.tmp 7), none⟩])
 (.seq (.cond (.tmp 9)
 .skip
 (.exit 0))
 (.seq (.block 1
 (.seq (.ops [⟨some 10, .indexAddr 1 (.tmp 6) (.tmp 8), none⟩,
 ⟨some 11, .load false 1 false (.tmp 10), none⟩,
 ⟨some 5, .mv (.tmp 11), none⟩])
 (.seq (.seq (.ops [⟨some 12, .mv (.tmp 5), none⟩,
 ⟨some 13, .call 0 38 [(.tmp 12)], none⟩,
 ⟨some 14, .mv (.tmp 5), none⟩,
 ⟨some 15, .call 0 37 [(.tmp 13), (.tmp 14)], none⟩,
 ⟨some 16, .un .not (.tmp 15), none⟩])
 (.cond (.tmp 16)
 (.seq (.ops [⟨some 2, .mv (.const (.bool false)), none⟩])
 .ret)
 .skip))
 (.ops [⟨some 17, .mv (.tmp 3), none⟩,
 ⟨some 18, .mv (.tmp 5), none⟩,
 ⟨some 19, .call 0 122 [(.tmp 18)], none⟩,
 ⟨some 20, .bin .add (.tmp 17) (.tmp 19), none⟩,
 ⟨some 3, .mv (.tmp 20), none⟩]))))
 (.ops [⟨some 21, .bin .add (.tmp 8) (.const (.int .i64 1)), none⟩,
 ⟨some 8, .mv (.tmp 21), none⟩])))))))
 (.seq (.ops [⟨some 22, .mv (.tmp 0), none⟩,
 ⟨some 23, .call 0 119 [(.tmp 22)], none⟩,
 ⟨some 24, .call 0 122 [(.tmp 23)], none⟩,
 ⟨some 25, .mv (.tmp 3), none⟩,
 ⟨some 26, .bin .eql (.tmp 24) (.tmp 25), none⟩,
 ⟨some 2, .mv (.tmp 26), none⟩])
 .ret))))⟩
def d_glyphcutter_dfa_Sound_1 : DFunc := ⟨[.tmp 3],
 (.seq (.ops [⟨some 3, .mv (.const (.bool false)), none⟩])
 (.seq (.ops [⟨some 4, .mv (.tmp 0), none⟩,
 ⟨some 5, .bin .lss (.tmp 4) (.const (.int .i64 (-1))), none⟩,
 ⟨some 6, .mv (.tmp 5), none⟩,
 ⟨some 7, .mv (.tmp 0), (some (6, false))⟩,
 ⟨some 8, .load false 1 false (.tmp 1), (some (6, false))⟩,
 ⟨some 9, .bin .geq (.tmp 7) (.tmp 8), (some (6, false))⟩,
 ⟨some 10, .pick (.tmp 6) (.const (.bool true)) (.tmp 9), none⟩,
 ⟨some 3, .mv (.tmp 10), none⟩])
 .ret))⟩
def d_glyphcutter_set_Union : DFunc := ⟨[.tmp 2],
 (.seq (.ops [⟨some 2, .mv (.const (.rd 0 [] true)), none⟩])
 (.seq (.ops [⟨some 3, .mv (.tmp 0), none⟩,
 ⟨some 4, .call 0 125 [(.tmp 3)], none⟩,
 ⟨some 5, .call 0 38 [(.tmp 4)], none⟩,
 ⟨some 2, .mv (.tmp 5), none⟩])
 .ret))⟩
def d_glyphcutter_set_Size : DFunc := ⟨[.tmp 2],
 (.seq (.ops [⟨some 2, .mv (.const (.int .i64 0)), none⟩])
 (.seq (.ops [⟨some 3, .mv (.const (.int .i64 0)), none⟩])
 (.seq (.seq (.ops [⟨some 6, .mv (.tmp 0), none⟩,
 ⟨some 7, .call 0 38 [(.tmp 6)], none⟩,
 ⟨some 8, .len 0 (.tmp 7), none⟩,
 ⟨some 9, .mv (.const (.int .i64 0)), none⟩])
 (.block 0
 (.loop
 (.seq (.ops [⟨some 10, .bin .lss (.tmp 9) (.tmp 8), none⟩])
 (.seq (.cond (.tmp 10)
 .skip
 (.exit 0))
 (.seq (.block 1
 (.seq (.ops [⟨some 11, .indexAddr 2 (.tmp 7) (.tmp 9), none⟩,
 ⟨some 12, .load false 2 true (.tmp 11), none⟩,
 ⟨some 5, .alloc [(.int .i64 0), (.int .i64 0)], none⟩,
 ⟨none, .store 2 (.tmp 5) (.tmp 12), none⟩])
 (.ops [⟨some 13, .mv (.tmp 3), none⟩,
 ⟨some 14, .fieldAddr 1 (.tmp 5), none⟩,
 ⟨some 15, .load false 1 false (.tmp 14), none⟩,
 ⟨some 16, .fieldAddr 0 (.tmp 5), none⟩,
 ⟨some 17, .load false 1 false (.tmp 16), none⟩,
 ⟨some 18, .bin .sub (.tmp 15) (.tmp 17), none⟩,
 ⟨some 19, .bin .add (.tmp 18) (.const (.int .i64 1)), none⟩,
 ⟨some 20, .bin .add (.tmp 13) (.tmp 19), none⟩,
 ⟨some 3, .mv (.tmp 20), none⟩])))
 (.ops [⟨some 21, .bin .add (.tmp 9) (.const (.int .i64 1)), none⟩,
 ⟨some 9, .mv (.tmp 21), none⟩])))))))
 (.seq (.ops [⟨some 22, .mv (.tmp 3), none⟩,
 ⟨some 2, .mv (.tmp 22), none⟩])
 .ret))))⟩
def d_slices_Concat___glyphcutter_api_Span_glyphcutter_api_Span_ : DFunc := ⟨[.tmp 2],
 (.seq (.ops [⟨some 2, .mv (.const (.rd 0 [] true)), none⟩])
 (.seq (.ops [⟨some 3, .mv (.const (.int .i64 0)), none⟩])
 (.seq (.seq (.ops [⟨some 9, .mv (.tmp 0), none⟩,
 ⟨some 10, .len 0 (.tmp 9), none⟩,
 ⟨some 11, .mv (.const (.int .i64 0)), none⟩])
 (.block 0
 (.loop
 (.seq (.ops [⟨some 12, .bin .lss (.tmp 11) (.tmp 10), none⟩])
 (.seq (.cond (.tmp 12)
 .skip
 (.exit 0))
 (.seq (.block 1
 (.seq (.ops [⟨some 13, .indexAddr 1 (.tmp 9) (.tmp 11), none⟩,
 ⟨some 14, .load false 1 false (.tmp 13), none⟩,
 ⟨some 5, .mv (.tmp 14), none⟩])
 (.seq (.ops [⟨some 15, .mv (.tmp 3), none⟩,
 ⟨some 16, .mv (.tmp 5), none⟩,
 ⟨some 17, .len 0 (.tmp 16), none⟩,
 ⟨some 18, .bin .add (.tmp 15) (.tmp 17), none⟩,
 ⟨some 3, .mv (.tmp 18), none⟩])
 (.seq (.ops [⟨some 19, .mv (.tmp 3), none⟩,
 ⟨some 20, .bin .lss (.tmp 19) (.const (.int .i64 0)), none⟩])
 (.cond (.tmp 20)
 (.ops [⟨some 21, .stuck, none⟩,
 ⟨none, .stuck, none⟩])
 .skip)))))
 (.ops [⟨some 22, .bin .add (.tmp 11) (.const (.int .i64 1)), none⟩,
 ⟨some 11, .mv (.tmp 22), none⟩])))))))
 (.seq (.ops [⟨some 23, .mv (.tmp 3), none⟩,
 ⟨some 24, .call 0 128 [(.const (.rd 0 [] true)), (.tmp 23)], none⟩,
 ⟨some 6, .mv (.tmp 24), none⟩])
 (.seq (.seq (.ops [⟨some 25, .mv (.tmp 0), none⟩,
 ⟨some 26, .len 0 (.tmp 25), none⟩,
 ⟨some 27, .mv (.const (.int .i64 0)), none⟩])
 (.block 2
 (.loop
 (.seq (.ops [⟨some 28, .bin .lss (.tmp 27) (.tmp 26), none⟩])
 (.seq (.cond (.tmp 28)
 .skip
 (.exit 2))
 (.seq (.block 3
 (.seq (.ops [⟨some 29, .indexAddr 1 (.tmp 25) (.tmp 27), none⟩,
 ⟨some 30, .load false 1 false (.tmp 29), none⟩,
 ⟨some 8, .mv (.tmp 30), none⟩])
 (.ops [⟨some 31, .mv (.tmp 6), none⟩,
 ⟨some 32, .mv (.tmp 8), none⟩,
 ⟨some 33, .append 2 (.tmp 31) (.tmp 32), none⟩,
 ⟨some 6, .mv (.tmp 33), none⟩])))
 (.ops [⟨some 34, .bin .add (.tmp 27) (.const (.int .i64 1)), none⟩,
 ⟨some 27, .mv (.tmp 34), none⟩])))))))
 (.seq (.ops [⟨some 35, .mv (.tmp 6), none⟩,
 ⟨some 2, .mv (.tmp 35), none⟩])
 .ret))))))⟩
def d_glyphcutter_glyphcutterref01_Inter : DFunc := ⟨[.tmp 4],
 (.seq (.ops [⟨some 4, .mv (.const (.rd 0 [] true)), none⟩])
 (.seq (.ops [⟨some 5, .mv (.tmp 0), none⟩,
 ⟨some 6, .mv (.tmp 1), none⟩,
 ⟨some 7, .call 0 45 [(.tmp 5), (.tmp 6), (.const (.int .i64 8))], none⟩,
 ⟨some 4, .mv (.tmp 7), none⟩])
 .ret))⟩
def d_glyphcutter_glyphcutterref01_Minus : DFunc := ⟨[.tmp 4],
 (.seq (.ops [⟨some 4, .mv (.const (.rd 0 [] true)), none⟩])
 (.seq (.ops [⟨some 5, .mv (.tmp 0), none⟩,
 ⟨some 6, .mv (.tmp 1), none⟩,
 ⟨some 7, .call 0 45 [(.tmp 5), (.tmp 6), (.const (.int .i64 2))], none⟩,
 ⟨some 4, .mv (.tmp 7), none⟩])
 .ret))⟩
def d_glyphcutter_glyphcutterref10_Of : DFunc := ⟨[.tmp 2],
 (.seq (.ops [⟨some 2, .mv (.const (.rd 0 [] true)), none⟩])
 (.seq (.ops [⟨some 3, .mv (.const (.rd 0 [] true)), none⟩])
 (.seq (.ops [⟨some 8, .build [(.int .i64 0), (.int .i64 0)] [(0, 1, (.const (.int .i64 0))), (1, 1, (.const (.int .i64 1114111)))], none⟩,
 ⟨some 9, .lit 2 1 [(.int .i64 0), (.int .i64 0)] [(0, 2, (.tmp 8))], none⟩,
 ⟨some 4, .mv (.tmp 9), none⟩])
 (.seq (.seq (.ops [⟨some 5, .mv (.const (.int .i64 0)), none⟩])
 (.block 0
 (.loop
 (.seq (.seq (.ops [⟨some 10, .mv (.tmp 5), none⟩,
 ⟨some 11, .mv (.tmp 0), none⟩,
 ⟨some 12, .len 0 (.tmp 11), none⟩,
 ⟨some 13, .bin .lss (.tmp 10) (.tmp 12), none⟩])
 (.cond (.tmp 13)
 .skip
 (.exit 0)))
 (.seq (.block 1
 (.seq (.ops [⟨some 6, .mv (.const (.rd 0 [] true)), none⟩])
 (.seq (.seq (.ops [⟨some 7, .mv (.const (.int .i64 0)), none⟩])
 (.block 2
 (.loop
 (.seq (.seq (.ops [⟨some 16, .mv (.tmp 7), none⟩,
 ⟨some 17, .mv (.tmp 3), none⟩,
 ⟨some 18, .len 0 (.tmp 17), none⟩,
 ⟨some 19, .bin .lss (.tmp 16) (.tmp 18), none⟩])
 (.cond (.tmp 19)
 .skip
 (.exit 2)))
 (.seq (.block 3
 (.seq (.ops [⟨some 22, .mv (.tmp 6), none⟩,
 ⟨some 23, .mv (.tmp 3), none⟩,
 ⟨some 24, .mv (.tmp 7), none⟩,
 ⟨some 25, .indexAddr 1 (.tmp 23) (.tmp 24), none⟩,
 ⟨some 26, .load false 1 false (.tmp 25), none⟩,
 ⟨some 27, .mv (.tmp 0), none⟩,
 ⟨some 28, .mv (.tmp 5), none⟩,
 ⟨some 29, .indexAddr 1 (.tmp 27) (.tmp 28), none⟩,
 ⟨some 30, .load false 1 false (.tmp 29), none⟩,
 ⟨some 31, .call 0 109 [(.tmp 26), (.tmp 30)], none⟩,
 ⟨some 32, .call 0 108 [(.tmp 22), (.tmp 31)], none⟩,
 ⟨some 6, .mv (.tmp 32), none⟩])
 (.ops [⟨some 33, .mv (.tmp 6), none⟩,
 ⟨some 34, .mv (.tmp 3), none⟩,
 ⟨some 35, .mv (.tmp 7), none⟩,
 ⟨some 36, .indexAddr 1 (.tmp 34) (.tmp 35), none⟩,
 ⟨some 37, .load false 1 false (.tmp 36), none⟩,
 ⟨some 38, .mv (.tmp 0), none⟩,
 ⟨some 39, .mv (.tmp 5), none⟩,
 ⟨some 40, .indexAddr 1 (.tmp 38) (.tmp 39), none⟩,
 ⟨some 41, .load false 1 false (.tmp 40), none⟩,
 ⟨some 42, .call 0 110 [(.tmp 37), (.tmp 41)], none⟩,
 ⟨some 43, .call 0 108 [(.tmp 33), (.tmp 42)], none⟩,
 ⟨some 6, .mv (.tmp 43), none⟩])))
 (.ops [⟨some 20, .mv (.tmp 7), none⟩,
 ⟨some 21, .bin .add (.tmp 20) (.const (.int .i64 1)), none⟩,
 ⟨some 7, .mv (.tmp 21), none⟩]))))))
 (.seq (.ops [⟨some 44, .mv (.tmp 6), none⟩,
 ⟨some 45, .mv (.tmp 4), none⟩,
 ⟨some 46, .mv (.tmp 0), none⟩,
 ⟨some 47, .mv (.tmp 5), none⟩,
 ⟨some 48, .indexAddr 1 (.tmp 46) (.tmp 47), none⟩,
 ⟨some 49, .load false 1 false (.tmp 48), none⟩,
 ⟨some 50, .call 0 109 [(.tmp 45), (.tmp 49)], none⟩,
 ⟨some 51, .call 0 108 [(.tmp 44), (.tmp 50)], none⟩,
 ⟨some 3, .mv (.tmp 51), none⟩])
 (.ops [⟨some 52, .mv (.tmp 4), none⟩,
 ⟨some 53, .mv (.tmp 0), none⟩,
 ⟨some 54, .mv (.tmp 5), none⟩,
 ⟨some 55, .indexAddr 1 (.tmp 53) (.tmp 54), none⟩,
 ⟨some 56, .load false 1 false (.tmp 55), none⟩,
 ⟨some 57, .call 0 110 [(.tmp 52), (.tmp 56)], none⟩,
 ⟨some 4, .mv (.tmp 57), none⟩])))))
 (.ops [⟨some 14, .mv (.tmp 5), none⟩,
 ⟨some 15, .bin .add (.tmp 14) (.const (.int .i64 1)), none⟩,
 ⟨some 5, .mv (.tmp 15), none⟩]))))))
 (.seq (.ops [⟨some 58, .mv (.tmp 3), none⟩,
 ⟨some 59, .call 0 111 [(.tmp 58)], none⟩,
 ⟨some 2, .mv (.tmp 59), none⟩])
 .ret)))))⟩
def d_glyphcutter_glyphcutterref10_some : DFunc := ⟨[.tmp 4],
 (.seq (.ops [⟨some 4, .mv (.const (.rd 0 [] true)), none⟩])
 (.seq (.seq (.ops [⟨some 6, .mv (.tmp 1), none⟩,
 ⟨some 7, .len 0 (.tmp 6), none⟩,
 ⟨some 8, .bin .eql (.tmp 7) (.const (.int .i64 0)), none⟩])
 (.cond (.tmp 8)
 (.seq (.ops [⟨some 9, .mv (.tmp 0), none⟩,
 ⟨some 4, .mv (.tmp 9), none⟩])
 .ret)
 .skip))
 (.seq (.ops [⟨some 5, .mv (.const (.rd 0 [] true)), none⟩])
 (.seq (.ops [⟨some 10, .mv (.tmp 5), none⟩,
 ⟨some 11, .mv (.tmp 0), none⟩,
 ⟨some 12, .append 1 (.tmp 10) (.tmp 11), none⟩,
 ⟨some 5, .mv (.tmp 12), none⟩])
 (.seq (.ops [⟨some 13, .mv (.tmp 5), none⟩,
 ⟨some 14, .mv (.tmp 1), none⟩,
 ⟨some 15, .lit 1 1 [(.rd 0 [] true)] [(0, 1, (.tmp 14))], none⟩,
 ⟨some 16, .append 1 (.tmp 13) (.tmp 15), none⟩,
 ⟨some 5, .mv (.tmp 16), none⟩])
 (.seq (.ops [⟨some 17, .mv (.tmp 5), none⟩,
 ⟨some 4, .mv (.tmp 17), none⟩])
 .ret))))))⟩
def d_glyphcutter_glyphcutterref10_sorted : DFunc := ⟨[.tmp 2],
 (.seq (.ops [⟨some 2, .mv (.const (.rd 0 [] true)), none⟩])
 (.seq (.ops [⟨some 3, .mv (.const (.rd 0 [] true)), none⟩])
 (.seq (.seq (.ops [⟨some 4, .mv (.const (.int .i64 0)), none⟩])
 (.block 0
 (.loop
 (.seq (.seq (.ops [⟨some 7, .mv (.tmp 4), none⟩,
 ⟨some 8, .mv (.tmp 0), none⟩,
 ⟨some 9, .len 0 (.tmp 8), none⟩,
 ⟨some 10, .bin .lss (.tmp 7) (.tmp 9), none⟩])
 (.cond (.tmp 10)
 .skip
 (.exit 0)))
 (.seq (.block 1
 (.seq (.ops [⟨some 5, .mv (.const (.rd 0 [] true)), none⟩])
 (.seq (.ops [⟨some 6, .mv (.const (.int .i64 0)), none⟩])
 (.seq (.block 2
 (.loop
 (.seq (.seq (.ops [⟨some 13, .mv (.tmp 6), none⟩,
 ⟨some 14, .mv (.tmp 3), none⟩,
 ⟨some 15, .len 0 (.tmp 14), none⟩,
 ⟨some 16, .bin .lss (.tmp 13) (.tmp 15), none⟩,
 ⟨some 17, .mv (.tmp 16), none⟩,
 ⟨some 18, .mv (.tmp 3), (some (17, true))⟩,
 ⟨some 19, .mv (.tmp 6), (some (17, true))⟩,
 ⟨some 20, .indexAddr 1 (.tmp 18) (.tmp 19), (some (17, true))⟩,
 ⟨some 21, .load false 1 false (.tmp 20), (some (17, true))⟩,
 ⟨some 22, .indexAddr 2 (.tmp 21) (.const (.int .i64 0)), (some (17, true))⟩,
 ⟨some 23, .fieldAddr 0 (.tmp 22), (some (17, true))⟩,
 ⟨some 24, .load false 1 false (.tmp 23), (some (17, true))⟩,
 ⟨some 25, .mv (.tmp 0), (some (17, true))⟩,
 ⟨some 26, .mv (.tmp 4), (some (17, true))⟩,
 ⟨some 27, .indexAddr 1 (.tmp 25) (.tmp 26), (some (17, true))⟩,
 ⟨some 28, .load false 1 false (.tmp 27), (some (17, true))⟩,
 ⟨some 29, .indexAddr 2 (.tmp 28) (.const (.int .i64 0)), (some (17, true))⟩,
 ⟨some 30, .fieldAddr 0 (.tmp 29), (some (17, true))⟩,
 ⟨some 31, .load false 1 false (.tmp 30), (some (17, true))⟩,
 ⟨some 32, .bin .lss (.tmp 24) (.tmp 31), (some (17, true))⟩,
 ⟨some 33, .pick (.tmp 17) (.tmp 32) (.const (.bool false)), none⟩])
 (.cond (.tmp 33)
 .skip
 (.exit 2)))
 (.block 3
 (.seq (.ops [⟨some 34, .mv (.tmp 5), none⟩,
 ⟨some 35, .mv (.tmp 3), none⟩,
 ⟨some 36, .mv (.tmp 6), none⟩,
 ⟨some 37, .indexAddr 1 (.tmp 35) (.tmp 36), none⟩,
 ⟨some 38, .load false 1 false (.tmp 37), none⟩,
 ⟨some 39, .lit 1 1 [(.rd 0 [] true)] [(0, 1, (.tmp 38))], none⟩,
 ⟨some 40, .append 1 (.tmp 34) (.tmp 39), none⟩,
 ⟨some 5, .mv (.tmp 40), none⟩])
 (.ops [⟨some 41, .mv (.tmp 6), none⟩,
 ⟨some 42, .bin .add (.tmp 41) (.const (.int .i64 1)), none⟩,
 ⟨some 6, .mv (.tmp 42), none⟩]))))))
 (.seq (.ops [⟨some 43, .mv (.tmp 5), none⟩,
 ⟨some 44, .mv (.tmp 0), none⟩,
 ⟨some 45, .mv (.tmp 4), none⟩,
 ⟨some 46, .indexAddr 1 (.tmp 44) (.tmp 45), none⟩,
 ⟨some 47, .load false 1 false (.tmp 46), none⟩,
 ⟨some 48, .lit 1 1 [(.rd 0 [] true)] [(0, 1, (.tmp 47))], none⟩,
 ⟨some 49, .append 1 (.tmp 43) (.tmp 48), none⟩,
 ⟨some 5, .mv (.tmp 49), none⟩])
 (.seq (.ops [⟨some 50, .mv (.tmp 5), none⟩,
 ⟨some 51, .mv (.tmp 3), none⟩,
 ⟨some 52, .mv (.tmp 6), none⟩,
 ⟨some 53, .slice 1 (.tmp 51) (some (.tmp 52)) none none, none⟩,
 ⟨some 54, .append 1 (.tmp 50) (.tmp 53), none⟩,
 ⟨some 5, .mv (.tmp 54), none⟩])
 (.ops [⟨some 55, .mv (.tmp 5), none⟩,
 ⟨some 3, .mv (.tmp 55), none⟩])))))))
 (.ops [⟨some 11, .mv (.tmp 4), none⟩,
 ⟨some 12, .bin .add (.tmp 11) (.const (.int .i64 1)), none⟩,
 ⟨some 4, .mv (.tmp 12), none⟩]))))))
 (.seq (.ops [⟨some 56, .mv (.tmp 3), none⟩,
 ⟨some 2, .mv (.tmp 56), none⟩])
 .ret))))⟩
def d_glyphcutter_glyphcutterref10_Which : DFunc := ⟨[.tmp 4],
 (.seq (.ops [⟨some 4, .mv (.const (.int .i64 0)), none⟩])
 (.seq (.seq (.ops [⟨some 5, .mv (.const (.int .i64 0)), none⟩])
 (.block 0
 (.loop
 (.seq (.seq (.ops [⟨some 6, .mv (.tmp 5), none⟩,
 ⟨some 7, .mv (.tmp 0), none⟩,
 ⟨some 8, .len 0 (.tmp 7), none⟩,
 ⟨some 9, .bin .lss (.tmp 6) (.tmp 8), none⟩])
 (.cond (.tmp 9)
 .skip
 (.exit 0)))
 (.seq (.block 1
 (.seq (.ops [⟨some 12, .mv (.tmp 0), none⟩,
 ⟨some 13, .mv (.tmp 5), none⟩,
 ⟨some 14, .indexAddr 1 (.tmp 12) (.tmp 13), none⟩,
 ⟨some 15, .load false 1 false (.tmp 14), none⟩,
 ⟨some 16, .mv (.tmp 1), none⟩,
 ⟨some 17, .call 0 31 [(.tmp 15), (.tmp 16)], none⟩])
 (.cond (.tmp 17)
 (.seq (.ops [⟨some 18, .mv (.tmp 5), none⟩,
 ⟨some 4, .mv (.tmp 18), none⟩])
 .ret)
 .skip)))
 (.ops [⟨some 10, .mv (.tmp 5), none⟩,
 ⟨some 11, .bin .add (.tmp 10) (.const (.int .i64 1)), none⟩,
 ⟨some 5, .mv (.tmp 11), none⟩]))))))
 (.seq (.ops [⟨some 4, .mv (.const (.int .i64 (-1))), none⟩])
 .ret)))⟩
def d_glyphcutter_glyphcutterref11_Sound : DFunc := ⟨[.tmp 2],
 (.seq (.ops [⟨some 1, .box (.tmp 0), none⟩,
 ⟨some 2, .mv (.const (.bool false)), none⟩])
 (.seq (.ops [⟨some 8, .fieldAddr 2 (.tmp 1), none⟩,
 ⟨some 9, .load false 1 false (.tmp 8), none⟩,
 ⟨some 10, .len 0 (.tmp 9), none⟩,
 ⟨some 3, .mv (.tmp 10), none⟩])
 (.seq (.seq (.ops [⟨some 11, .fieldAddr 0 (.tmp 1), none⟩,
 ⟨some 12, .load false 1 false (.tmp 11), none⟩,
 ⟨some 13, .len 0 (.tmp 12), none⟩,
 ⟨some 14, .bin .gtr (.tmp 13) (.const (.int .i64 2000)), none⟩,
 ⟨some 15, .mv (.tmp 14), none⟩,
 ⟨some 16, .mv (.tmp 3), (some (15, false))⟩,
 ⟨some 17, .bin .lss (.tmp 16) (.const (.int .i64 1)), (some (15, false))⟩,
 ⟨some 18, .pick (.tmp 15) (.const (.bool true)) (.tmp 17), none⟩,
 ⟨some 19, .mv (.tmp 18), none⟩,
 ⟨some 20, .mv (.tmp 3), (some (19, false))⟩,
 ⟨some 21, .bin .gtr (.tmp 20) (.const (.int .i64 2000)), (some (19, false))⟩,
 ⟨some 22, .pick (.tmp 19) (.const (.bool true)) (.tmp 21), none⟩,
 ⟨some 23, .mv (.tmp 22), none⟩,
 ⟨some 24, .fieldAddr 1 (.tmp 1), (some (23, false))⟩,
 ⟨some 25, .load false 1 false (.tmp 24), (some (23, false))⟩,
 ⟨some 26, .len 0 (.tmp 25), (some (23, false))⟩,
 ⟨some 27, .mv (.tmp 3), (some (23, false))⟩,
 ⟨some 28, .bin .neq (.tmp 26) (.tmp 27), (some (23, false))⟩,
 ⟨some 29, .pick (.tmp 23) (.const (.bool true)) (.tmp 28), none⟩])
 (.cond (.tmp 29)
 (.seq (.ops [⟨some 2, .mv (.const (.bool false)), none⟩])
 .ret)
 .skip))
 (.seq (.seq (.ops [⟨some 4, .mv (.const (.int .i64 0)), none⟩])
 (.block 0
 (.loop
 (.seq (.seq (.ops [⟨some 30, .mv (.tmp 4), none⟩,
 ⟨some 31, .fieldAddr 0 (.tmp 1), none⟩,
 ⟨some 32, .load false 1 false (.tmp 31), none⟩,
 ⟨some 33, .len 0 (.tmp 32), none⟩,
 ⟨some 34, .bin .lss (.tmp 30) (.tmp 33), none⟩])
 (.cond (.tmp 34)
 .skip
 (.exit 0)))
 (.seq (.block 1
 (.seq (.seq (.ops [⟨some 37, .fieldAddr 0 (.tmp 1), none⟩,
 ⟨some 38, .load false 1 false (.tmp 37), none⟩,
 ⟨some 39, .mv (.tmp 4), none⟩,
 ⟨some 40, .indexAddr 1 (.tmp 38) (.tmp 39), none⟩,
 ⟨some 41, .load false 1 false (.tmp 40), none⟩,
 ⟨some 42, .call 1 33 [(.tmp 41)], none⟩,
 ⟨some 43, .fieldAddr 0 (.tmp 1), none⟩,
 ⟨some 44, .load false 1 false (.tmp 43), none⟩,
 ⟨some 45, .mv (.tmp 4), none⟩,
 ⟨some 46, .indexAddr 1 (.tmp 44) (.tmp 45), none⟩,
 ⟨some 47, .load false 1 false (.tmp 46), none⟩,
 ⟨some 48, .call 0 32 [(.tmp 42), (.tmp 47)], none⟩,
 ⟨some 49, .un .not (.tmp 48), none⟩])
 (.cond (.tmp 49)
 (.seq (.ops [⟨some 2, .mv (.const (.bool false)), none⟩])
 .ret)
 .skip))
 (.seq (.ops [⟨some 5, .mv (.const (.int .i64 0)), none⟩])
 (.block 2
 (.loop
 (.seq (.seq (.ops [⟨some 50, .mv (.tmp 5), none⟩,
 ⟨some 51, .mv (.tmp 4), none⟩,
 ⟨some 52, .bin .lss (.tmp 50) (.tmp 51), none⟩])
 (.cond (.tmp 52)
 .skip
 (.exit 2)))
 (.seq (.block 3
 (.seq (.ops [⟨some 55, .fieldAddr 0 (.tmp 1), none⟩,
 ⟨some 56, .load false 1 false (.tmp 55), none⟩,
 ⟨some 57, .mv (.tmp 4), none⟩,
 ⟨some 58, .indexAddr 1 (.tmp 56) (.tmp 57), none⟩,
 ⟨some 59, .load false 1 false (.tmp 58), none⟩,
 ⟨some 60, .fieldAddr 0 (.tmp 1), none⟩,
 ⟨some 61, .load false 1 false (.tmp 60), none⟩,
 ⟨some 62, .mv (.tmp 5), none⟩,
 ⟨some 63, .indexAddr 1 (.tmp 61) (.tmp 62), none⟩,
 ⟨some 64, .load false 1 false (.tmp 63), none⟩,
 ⟨some 65, .call 0 109 [(.tmp 59), (.tmp 64)], none⟩,
 ⟨some 66, .len 0 (.tmp 65), none⟩,
 ⟨some 67, .bin .gtr (.tmp 66) (.const (.int .i64 0)), none⟩])
 (.cond (.tmp 67)
 (.seq (.ops [⟨some 2, .mv (.const (.bool false)), none⟩])
 .ret)
 .skip)))
 (.ops [⟨some 53, .mv (.tmp 5), none⟩,
 ⟨some 54, .bin .add (.tmp 53) (.const (.int .i64 1)), none⟩,
 ⟨some 5, .mv (.tmp 54), none⟩]))))))))
 (.ops [⟨some 35, .mv (.tmp 4), none⟩,
 ⟨some 36, .bin .add (.tmp 35) (.const (.int .i64 1)), none⟩,
 ⟨some 4, .mv (.tmp 36), none⟩]))))))
 (.seq (.seq (.ops [⟨some 6, .mv (.const (.int .i64 0)), none⟩])
 (.block 4
 (.loop
 (.seq (.seq (.ops [⟨some 68, .mv (.tmp 6), none⟩,
 ⟨some 69, .mv (.tmp 3), none⟩,
 ⟨some 70, .bin .lss (.tmp 68) (.tmp 69), none⟩])
 (.cond (.tmp 70)
 .skip
 (.exit 4)))
 (.seq (.block 5
 (.seq (.seq (.ops [⟨some 73, .fieldAddr 1 (.tmp 1), none⟩,
 ⟨some 74, .load false 1 false (.tmp 73), none⟩,
 ⟨some 75, .mv (.tmp 6), none⟩,
 ⟨some 76, .indexAddr 1 (.tmp 74) (.tmp 75), none⟩,
 ⟨some 77, .load false 1 false (.tmp 76), none⟩,
 ⟨some 78, .len 0 (.tmp 77), none⟩,
 ⟨some 79, .fieldAddr 0 (.tmp 1), none⟩,
 ⟨some 80, .load false 1 false (.tmp 79), none⟩,
 ⟨some 81, .len 0 (.tmp 80), none⟩,
 ⟨some 82, .bin .neq (.tmp 78) (.tmp 81), none⟩,
 ⟨some 83, .mv (.tmp 82), none⟩,
 ⟨some 84, .fieldAddr 2 (.tmp 1), (some (83, false))⟩,
 ⟨some 85, .load false 1 false (.tmp 84), (some (83, false))⟩,
 ⟨some 86, .mv (.tmp 6), (some (83, false))⟩,
 ⟨some 87, .indexAddr 1 (.tmp 85) (.tmp 86), (some (83, false))⟩,
 ⟨some 88, .load false 1 false (.tmp 87), (some (83, false))⟩,
 ⟨some 89, .bin .lss (.tmp 88) (.const (.int .i64 (-1))), (some (83, false))⟩,
 ⟨some 90, .pick (.tmp 83) (.const (.bool true)) (.tmp 89), none⟩])
 (.cond (.tmp 90)
 (.seq (.ops [⟨some 2, .mv (.const (.bool false)), none⟩])
 .ret)
 .skip))
 (.seq (.ops [⟨some 7, .mv (.const (.int .i64 0)), none⟩])
 (.block 6
 (.loop
 (.seq (.seq (.ops [⟨some 91, .mv (.tmp 7), none⟩,
 ⟨some 92, .fieldAddr 1 (.tmp 1), none⟩,
 ⟨some 93, .load false 1 false (.tmp 92), none⟩,
 ⟨some 94, .mv (.tmp 6), none⟩,
 ⟨some 95, .indexAddr 1 (.tmp 93) (.tmp 94), none⟩,
 ⟨some 96, .load false 1 false (.tmp 95), none⟩,
 ⟨some 97, .len 0 (.tmp 96), none⟩,
 ⟨some 98, .bin .lss (.tmp 91) (.tmp 97), none⟩])
 (.cond (.tmp 98)
 .skip
 (.exit 6)))
 (.seq (.block 7
 (.seq (.ops [⟨some 101, .fieldAddr 1 (.tmp 1), none⟩,
 ⟨some 102, .load false 1 false (.tmp 101), none⟩,
 ⟨some 103, .mv (.tmp 6), none⟩,
 ⟨some 104, .indexAddr 1 (.tmp 102) (.tmp 103), none⟩,
 ⟨some 105, .load false 1 false (.tmp 104), none⟩,
 ⟨some 106, .mv (.tmp 7), none⟩,
 ⟨some 107, .indexAddr 1 (.tmp 105) (.tmp 106), none⟩,
 ⟨some 108, .load false 1 false (.tmp 107), none⟩,
 ⟨some 109, .bin .lss (.tmp 108) (.const (.int .i64 (-1))), none⟩,
 ⟨some 110, .mv (.tmp 109), none⟩,
 ⟨some 111, .fieldAddr 1 (.tmp 1), (some (110, false))⟩,
 ⟨some 112, .load false 1 false (.tmp 111), (some (110, false))⟩,
 ⟨some 113, .mv (.tmp 6), (some (110, false))⟩,
 ⟨some 114, .indexAddr 1 (.tmp 112) (.tmp 113), (some (110, false))⟩,
 ⟨some 115, .load false 1 false (.tmp 114), (some (110, false))⟩,
 ⟨some 116, .mv (.tmp 7), (some (110, false))⟩,
 ⟨some 117, .indexAddr 1 (.tmp 115) (.tmp 116), (some (110, false))⟩,
 ⟨some 118, .load false 1 false (.tmp 117), (some (110, false))⟩,
 ⟨some 119, .mv (.tmp 3), (some (110, false))⟩,
 ⟨some 120, .bin .geq (.tmp 118) (.tmp 119), (some (110, false))⟩,
 ⟨some 121, .pick (.tmp 110) (.const (.bool true)) (.tmp 120), none⟩])
 (.cond (.tmp 121)
 (.seq (.ops [⟨some 2, .mv (.const (.bool false)), none⟩])
 .ret)
 .skip)))
 (.ops [⟨some 99, .mv (.tmp 7), none⟩,
 ⟨some 100, .bin .add (.tmp 99) (.const (.int .i64 1)), none⟩,
 ⟨some 7, .mv (.tmp 100), none⟩]))))))))
 (.ops [⟨some 71, .mv (.tmp 6), none⟩,
 ⟨some 72, .bin .add (.tmp 71) (.const (.int .i64 1)), none⟩,
 ⟨some 6, .mv (.tmp 72), none⟩]))))))
 (.seq (.ops [⟨some 2, .mv (.const (.bool true)), none⟩])
 .ret))))))⟩
def d_glyphcutter_glyphcutterref11_Longest : DFunc := ⟨[.tmp 4, .tmp 5],
 (.seq (.ops [⟨some 2, .box (.tmp 0), none⟩,
 ⟨some 4, .mv (.const (.int .i64 0)), none⟩,
 ⟨some 5, .mv (.const (.int .i64 0)), none⟩])
 (.seq (.ops [⟨some 6, .mv (.const (.int .i64 0)), none⟩])
 (.seq (.ops [⟨some 7, .mv (.const (.int .i64 (-1))), none⟩])
 (.seq (.ops [⟨some 8, .mv (.const (.int .i64 0)), none⟩])
 (.seq (.seq (.ops [⟨some 11, .load false 3 true (.tmp 2), none⟩,
 ⟨some 12, .call 0 157 [(.tmp 11)], none⟩,
 ⟨some 13, .un .not (.tmp 12), none⟩])
 (.cond (.tmp 13)
 (.seq (.ops [⟨some 4, .mv (.const (.int .i64 0)), none⟩,
 ⟨some 5, .mv (.const (.int .i64 (-1))), none⟩])
 .ret)
 .skip))
 (.seq (.seq (.ops [⟨some 9, .mv (.const (.int .i64 0)), none⟩])
 (.block 0
 (.loop
 (.seq (.seq (.ops [⟨some 14, .mv (.tmp 9), none⟩,
 ⟨some 15, .mv (.tmp 1), none⟩,
 ⟨some 16, .len 0 (.tmp 15), none⟩,
 ⟨some 17, .bin .lss (.tmp 14) (.tmp 16), none⟩])
 (.cond (.tmp 17)
 .skip
 (.exit 0)))
 (.seq (.block 1
 (.seq (.ops [⟨some 20, .fieldAddr 0 (.tmp 2), none⟩,
 ⟨some 21, .load false 1 false (.tmp 20), none⟩,
 ⟨some 22, .mv (.tmp 1), none⟩,
 ⟨some 23, .mv (.tmp 9), none⟩,
 ⟨some 24, .indexAddr 1 (.tmp 22) (.tmp 23), none⟩,
 ⟨some 25, .load false 1 false (.tmp 24), none⟩,
 ⟨some 26, .call 0 161 [(.tmp 21), (.tmp 25)], none⟩,
 ⟨some 10, .mv (.tmp 26), none⟩])
 (.seq (.seq (.ops [⟨some 27, .mv (.tmp 10), none⟩,
 ⟨some 28, .bin .lss (.tmp 27) (.const (.int .i64 0)), none⟩])
 (.cond (.tmp 28)
 (.exit 0)
 .skip))
 (.seq (.ops [⟨some 29, .fieldAddr 1 (.tmp 2), none⟩,
 ⟨some 30, .load false 1 false (.tmp 29), none⟩,
 ⟨some 31, .mv (.tmp 8), none⟩,
 ⟨some 32, .indexAddr 1 (.tmp 30) (.tmp 31), none⟩,
 ⟨some 33, .load false 1 false (.tmp 32), none⟩,
 ⟨some 34, .mv (.tmp 10), none⟩,
 ⟨some 35, .indexAddr 1 (.tmp 33) (.tmp 34), none⟩,
 ⟨some 36, .load false 1 false (.tmp 35), none⟩,
 ⟨some 8, .mv (.tmp 36), none⟩])
 (.seq (.seq (.ops [⟨some 37, .mv (.tmp 8), none⟩,
 ⟨some 38, .bin .lss (.tmp 37) (.const (.int .i64 0)), none⟩])
 (.cond (.tmp 38)
 (.exit 0)
 .skip))
 (.seq (.ops [⟨some 39, .fieldAddr 2 (.tmp 2), none⟩,
 ⟨some 40, .load false 1 false (.tmp 39), none⟩,
 ⟨some 41, .mv (.tmp 8), none⟩,
 ⟨some 42, .indexAddr 1 (.tmp 40) (.tmp 41), none⟩,
 ⟨some 43, .load false 1 false (.tmp 42), none⟩,
 ⟨some 44, .bin .geq (.tmp 43) (.const (.int .i64 0)), none⟩])
 (.cond (.tmp 44)
 (.seq (.ops [⟨some 45, .mv (.tmp 9), none⟩,
 ⟨some 46, .bin .add (.tmp 45) (.const (.int .i64 1)), none⟩,
 ⟨some 6, .mv (.tmp 46), none⟩])
 (.ops [⟨some 47, .fieldAddr 2 (.tmp 2), none⟩,
 ⟨some 48, .load false 1 false (.tmp 47), none⟩,
 ⟨some 49, .mv (.tmp 8), none⟩,
 ⟨some 50, .indexAddr 1 (.tmp 48) (.tmp 49), none⟩,
 ⟨some 51, .load false 1 false (.tmp 50), none⟩,
 ⟨some 7, .mv (.tmp 51), none⟩]))
 .skip)))))))
 (.ops [⟨some 18, .mv (.tmp 9), none⟩,
 ⟨some 19, .bin .add (.tmp 18) (.const (.int .i64 1)), none⟩,
 ⟨some 9, .mv (.tmp 19), none⟩]))))))
 (.seq (.ops [⟨some 52, .mv (.tmp 6), none⟩,
 ⟨some 53, .mv (.tmp 7), none⟩,
 ⟨some 4, .mv (.tmp 52), none⟩,
 ⟨some 5, .mv (.tmp 53), none⟩])
 .ret)))))))⟩
def d_glyphcutter_glyphcutterlaw11_Make : DFunc := ⟨[.cell 8 3 true],
 (.seq (.ops [⟨some 8, .alloc [(.rd 0 [] true), (.rd 0 [] true), (.rd 0 [] true)], none⟩])
 (.seq (.ops [⟨some 9, .mv (.const (.rd 0 [] true)), none⟩])
 (.seq (.seq (.ops [⟨some 10, .mv (.const (.int .i64 0)), none⟩])
 (.block 0
 (.loop
 (.seq (.seq (.ops [⟨some 19, .mv (.tmp 10), none⟩,
 ⟨some 20, .mv (.tmp 0), none⟩,
 ⟨some 21, .len 0 (.tmp 20), none⟩,
 ⟨some 22, .bin .lss (.tmp 19) (.tmp 21), none⟩,
 ⟨some 23, .mv (.tmp 22), none⟩,
 ⟨some 24, .mv (.tmp 10), (some (23, true))⟩,
 ⟨some 25, .bin .lss (.tmp 24) (.const (.int .i64 4)), (some (23, true))⟩,
 ⟨some 26, .pick (.tmp 23) (.tmp 25) (.const (.bool false)), none⟩])
 (.cond (.tmp 26)
 .skip
 (.exit 0)))
 (.seq (.block 1
 (.seq (.ops [⟨some 29, .mv (.tmp 0), none⟩,
 ⟨some 30, .mv (.tmp 10), none⟩,
 ⟨some 31, .indexAddr 1 (.tmp 29) (.tmp 30), none⟩,
 ⟨some 32, .load false 1 false (.tmp 31), none⟩,
 ⟨some 33, .len 0 (.tmp 32), none⟩,
 ⟨some 34, .bin .lss (.tmp 33) (.const (.int .i64 8)), none⟩])
 (.cond (.tmp 34)
 (.ops [⟨some 35, .mv (.tmp 9), none⟩,
 ⟨some 36, .mv (.tmp 0), none⟩,
 ⟨some 37, .mv (.tmp 10), none⟩,
 ⟨some 38, .indexAddr 1 (.tmp 36) (.tmp 37), none⟩,
 ⟨some 39, .load false 1 false (.tmp 38), none⟩,
 ⟨some 40, .call 0 22 [(.tmp 39)], none⟩,
 ⟨some 41, .lit 1 1 [(.rd 0 [] true)] [(0, 1, (.tmp 40))], none⟩,
 ⟨some 42, .append 1 (.tmp 35) (.tmp 41), none⟩,
 ⟨some 9, .mv (.tmp 42), none⟩])
 .skip)))
 (.ops [⟨some 27, .mv (.tmp 10), none⟩,
 ⟨some 28, .bin .add (.tmp 27) (.const (.int .i64 1)), none⟩,
 ⟨some 10, .mv (.tmp 28), none⟩]))))))
 (.seq (.ops [⟨some 43, .mv (.tmp 9), none⟩,
 ⟨some 44, .call 0 97 [(.tmp 43)], none⟩,
 ⟨some 45, .build [(.rd 0 [] true), (.rd 0 [] true), (.rd 0 [] true)] [(0, 1, (.tmp 44))], none⟩,
 ⟨some 11, .alloc [(.rd 0 [] true), (.rd 0 [] true), (.rd 0 [] true)], none⟩,
 ⟨none, .store 3 (.tmp 11) (.tmp 45), none⟩])
 (.seq (.ops [⟨some 46, .mv (.tmp 1), none⟩,
 ⟨some 47, .bin .rem (.tmp 46) (.const (.int .u8 9)), none⟩,
 ⟨some 48, .conv .i64 (.tmp 47), none⟩,
 ⟨some 49, .bin .add (.const (.int .i64 1)) (.tmp 48), none⟩,
 ⟨some 12, .mv (.tmp 49), none⟩])
 (.seq (.ops [⟨some 13, .mv (.const (.int .i64 0)), none⟩])
 (.seq (.seq (.ops [⟨some 14, .mv (.const (.int .i64 0)), none⟩])
 (.block 2
 (.loop
 (.seq (.seq (.ops [⟨some 50, .mv (.tmp 14), none⟩,
 ⟨some 51, .mv (.tmp 12), none⟩,
 ⟨some 52, .bin .lss (.tmp 50) (.tmp 51), none⟩])
 (.cond (.tmp 52)
 .skip
 (.exit 2)))
 (.seq (.block 3
 (.seq (.ops [⟨some 15, .mv (.const (.rd 0 [] true)), none⟩])
 (.seq (.seq (.ops [⟨some 16, .mv (.const (.int .i64 0)), none⟩])
 (.block 4
 (.loop
 (.seq (.seq (.ops [⟨some 55, .mv (.tmp 16), none⟩,
 ⟨some 56, .fieldAddr 0 (.tmp 11), none⟩,
 ⟨some 57, .load false 1 false (.tmp 56), none⟩,
 ⟨some 58, .len 0 (.tmp 57), none⟩,
 ⟨some 59, .bin .lss (.tmp 55) (.tmp 58), none⟩])
 (.cond (.tmp 59)
 .skip
 (.exit 4)))
 (.seq (.block 5
 (.seq (.ops [⟨some 17, .mv (.const (.int .i64 0)), none⟩])
 (.seq (.seq (.ops [⟨some 62, .mv (.tmp 2), none⟩,
 ⟨some 63, .len 0 (.tmp 62), none⟩,
 ⟨some 64, .bin .gtr (.tmp 63) (.const (.int .i64 0)), none⟩])
 (.cond (.tmp 64)
 (.ops [⟨some 65, .mv (.tmp 2), none⟩,
 ⟨some 66, .mv (.tmp 13), none⟩,
 ⟨some 67, .mv (.tmp 2), none⟩,
 ⟨some 68, .len 0 (.tmp 67), none⟩,
 ⟨some 69, .bin .rem (.tmp 66) (.tmp 68), none⟩,
 ⟨some 70, .indexAddr 1 (.tmp 65) (.tmp 69), none⟩,
 ⟨some 71, .load false 1 false (.tmp 70), none⟩,
 ⟨some 72, .conv .i64 (.tmp 71), none⟩,
 ⟨some 73, .mv (.tmp 12), none⟩,
 ⟨some 74, .bin .rem (.tmp 72) (.tmp 73), none⟩,
 ⟨some 75, .mx [(.tmp 74), (.const (.int .i64 (-1)))], none⟩,
 ⟨some 17, .mv (.tmp 75), none⟩])
 .skip))
 (.seq (.ops [⟨some 76, .mv (.tmp 15), none⟩,
 ⟨some 77, .mv (.tmp 17), none⟩,
 ⟨some 78, .lit 1 1 [(.int .i64 0)] [(0, 1, (.tmp 77))], none⟩,
 ⟨some 79, .append 1 (.tmp 76) (.tmp 78), none⟩,
 ⟨some 15, .mv (.tmp 79), none⟩])
 (.ops [⟨some 80, .mv (.tmp 13), none⟩,
 ⟨some 81, .bin .add (.tmp 80) (.const (.int .i64 1)), none⟩,
 ⟨some 13, .mv (.tmp 81), none⟩])))))
 (.ops [⟨some 60, .mv (.tmp 16), none⟩,
 ⟨some 61, .bin .add (.tmp 60) (.const (.int .i64 1)), none⟩,
 ⟨some 16, .mv (.tmp 61), none⟩]))))))
 (.seq (.ops [⟨some 18, .mv (.const (.int .i64 (-1))), none⟩])
 (.seq (.seq (.ops [⟨some 82, .mv (.tmp 14), none⟩,
 ⟨some 83, .mv (.tmp 3), none⟩,
 ⟨some 84, .len 0 (.tmp 83), none⟩,
 ⟨some 85, .bin .lss (.tmp 82) (.tmp 84), none⟩])
 (.cond (.tmp 85)
 (.ops [⟨some 86, .mv (.tmp 3), none⟩,
 ⟨some 87, .mv (.tmp 14), none⟩,
 ⟨some 88, .indexAddr 1 (.tmp 86) (.tmp 87), none⟩,
 ⟨some 89, .load false 1 false (.tmp 88), none⟩,
 ⟨some 90, .conv .i64 (.tmp 89), none⟩,
 ⟨some 91, .bin .rem (.tmp 90) (.const (.int .i64 4)), none⟩,
 ⟨some 92, .mx [(.tmp 91), (.const (.int .i64 (-1)))], none⟩,
 ⟨some 18, .mv (.tmp 92), none⟩])
 .skip))
 (.seq (.ops [⟨some 93, .fieldAddr 1 (.tmp 11), none⟩,
 ⟨some 94, .load false 1 false (.tmp 93), none⟩,
 ⟨some 95, .mv (.tmp 15), none⟩,
 ⟨some 96, .lit 1 1 [(.rd 0 [] true)] [(0, 1, (.tmp 95))], none⟩,
 ⟨some 97, .append 1 (.tmp 94) (.tmp 96), none⟩,
 ⟨some 98, .fieldAddr 1 (.tmp 11), none⟩,
 ⟨none, .store 1 (.tmp 98) (.tmp 97), none⟩])
 (.ops [⟨some 99, .fieldAddr 2 (.tmp 11), none⟩,
 ⟨some 100, .load false 1 false (.tmp 99), none⟩,
 ⟨some 101, .mv (.tmp 18), none⟩,
 ⟨some 102, .lit 1 1 [(.int .i64 0)] [(0, 1, (.tmp 101))], none⟩,
 ⟨some 103, .append 1 (.tmp 100) (.tmp 102), none⟩,
 ⟨some 104, .fieldAddr 2 (.tmp 11), none⟩,
 ⟨none, .store 1 (.tmp 104) (.tmp 103), none⟩])))))))
 (.ops [⟨some 53, .mv (.tmp 14), none⟩,
 ⟨some 54, .bin .add (.tmp 53) (.const (.int .i64 1)), none⟩,
 ⟨some 14, .mv (.tmp 54), none⟩]))))))
 (.seq (.ops [⟨some 105, .load false 3 true (.tmp 11), none⟩,
 ⟨none, .store 3 (.tmp 8) (.tmp 105), none⟩])
 .ret))))))))⟩
structure LibC3 (Φ : Lib) : Prop where
 f118 : Φ 118 = some (.code d_strconv_AppendInt)
 f124 : Φ 124 = some (.code d_internal_strconv_AppendInt)
 f127 : Φ 127 = some (.code d_internal_strconv_AppendUint)
 f140 : Φ 140 = some (.code d_internal_strconv_formatBits)
 f146 : Φ 146 = some (.code d_internal_strconv_isPowerOfTwo)
 f100 : Φ 100 = some (.code d_glyphcutter_dfa_Sound)
 f113 : Φ 113 = some (.code d_glyphcutter_dfa_apart)
 f114 : Φ 114 = some (.code d_glyphcutter_dfa_Sound_1)
 f119 : Φ 119 = some (.code d_glyphcutter_set_Union)
 f122 : Φ 122 = some (.code d_glyphcutter_set_Size)
 f125 : Φ 125 = some (.code d_slices_Concat___glyphcutter_api_Span_glyphcutter_api_Span_)
 f109 : Φ 109 = some (.code d_glyphcutter_glyphcutterref01_Inter)
 f110 : Φ 110 = some (.code d_glyphcutter_glyphcutterref01_Minus)
 f97 : Φ 97 = some (.code d_glyphcutter_glyphcutterref10_Of)
 f108 : Φ 108 = some (.code d_glyphcutter_glyphcutterref10_some)
 f111 : Φ 111 = some (.code d_glyphcutter_glyphcutterref10_sorted)
 f161 : Φ 161 = some (.code d_glyphcutter_glyphcutterref10_Which)
 f157 : Φ 157 = some (.code d_glyphcutter_glyphcutterref11_Sound)
 f158 : Φ 158 = some (.code d_glyphcutter_glyphcutterref11_Longest)
 f156 : Φ 156 = some (.code d_glyphcutter_glyphcutterlaw11_Make)
end Go.Proofs.YtdldfflfbfpngaaGreatDoor
namespace Go.Proofs.YtdldfflfbfpngaaGreatDoor
open Go
structure LibC4 (Φ : Lib) : Prop where
end Go.Proofs.YtdldfflfbfpngaaGreatDoor
