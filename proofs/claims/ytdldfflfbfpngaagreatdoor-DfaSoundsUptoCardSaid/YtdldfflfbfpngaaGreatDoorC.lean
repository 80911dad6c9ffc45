/- The abstract machine's code of some functions. Written by program. The abstract machine's code of some functions. Written by program. -/
import Derived.Test.YtdldfflfbfpngaaGreatDoorB2
namespace Go.Proofs.YtdldfflfbfpngaaGreatDoor
open Go
def d_glyphcutter_set_Has : DFunc := ⟨[.tmp 4],
 (.seq (.ops [⟨some 3, .box (.tmp 1), none⟩,
 ⟨some 4, .mv (.const (.bool false)), none⟩])
 (.seq (.seq (.ops [⟨some 5, .load false 1 false (.tmp 3), none⟩,
 ⟨some 6, .bin .lss (.tmp 5) (.const (.int .i64 0)), none⟩,
 ⟨some 7, .mv (.tmp 6), none⟩,
 ⟨some 8, .load false 1 false (.tmp 3), (some (7, false))⟩,
 ⟨some 9, .bin .gtr (.tmp 8) (.const (.int .i64 1114111)), (some (7, false))⟩,
 ⟨some 10, .pick (.tmp 7) (.const (.bool true)) (.tmp 9), none⟩,
 ⟨some 11, .mv (.tmp 10), none⟩,
 ⟨some 12, .load false 1 false (.tmp 3), (some (11, false))⟩,
 ⟨some 13, .bin .geq (.tmp 12) (.const (.int .i64 55296)), (some (11, false))⟩,
 ⟨some 14, .mv (.tmp 13), (some (11, false))⟩,
 ⟨some 15, .load false 1 false (.tmp 3), (some (14, true))⟩,
 ⟨some 16, .bin .leq (.tmp 15) (.const (.int .i64 57343)), (some (14, true))⟩,
 ⟨some 17, .pick (.tmp 14) (.tmp 16) (.const (.bool false)), (some (11, false))⟩,
 ⟨some 18, .pick (.tmp 11) (.const (.bool true)) (.tmp 17), none⟩])
 (.cond (.tmp 18)
 (.seq (.ops [⟨some 4, .mv (.const (.bool false)), none⟩])
 .ret)
 .skip))
 (.seq (.ops [⟨some 19, .mv (.tmp 0), none⟩,
 ⟨some 20, .mkfn 54 [(.tmp 3)], none⟩,
 ⟨some 21, .call 0 53 [(.tmp 19), (.tmp 20)], none⟩,
 ⟨some 4, .mv (.tmp 21), none⟩])
 .ret)))⟩
def d_glyphcutter_set_Has_1 : DFunc := ⟨[.tmp 3],
 (.seq (.ops [⟨some 2, .box (.tmp 0), none⟩,
 ⟨some 3, .mv (.const (.bool false)), none⟩])
 (.seq (.ops [⟨some 4, .fieldAddr 0 (.tmp 2), none⟩,
 ⟨some 5, .load false 1 false (.tmp 4), none⟩,
 ⟨some 6, .load false 1 false (.tmp 1), none⟩,
 ⟨some 7, .bin .leq (.tmp 5) (.tmp 6), none⟩,
 ⟨some 8, .mv (.tmp 7), none⟩,
 ⟨some 9, .load false 1 false (.tmp 1), (some (8, true))⟩,
 ⟨some 10, .fieldAddr 1 (.tmp 2), (some (8, true))⟩,
 ⟨some 11, .load false 1 false (.tmp 10), (some (8, true))⟩,
 ⟨some 12, .bin .leq (.tmp 9) (.tmp 11), (some (8, true))⟩,
 ⟨some 13, .pick (.tmp 8) (.tmp 12) (.const (.bool false)), none⟩,
 ⟨some 3, .mv (.tmp 13), none⟩])
 .ret))⟩
def d_slices_ContainsFunc___glyphcutter_api_Span_glyphcutter_api_Span_ : DFunc := ⟨[.tmp 4],
 (.seq (.ops [⟨some 4, .mv (.const (.bool false)), none⟩])
 (.seq (.ops [⟨some 5, .mv (.tmp 0), none⟩,
 ⟨some 6, .mv (.tmp 1), none⟩,
 ⟨some 7, .call 0 62 [(.tmp 5), (.tmp 6)], none⟩,
 ⟨some 8, .bin .geq (.tmp 7) (.const (.int .i64 0)), none⟩,
 ⟨some 4, .mv (.tmp 8), none⟩])
 .ret))⟩
def d_slices_IndexFunc___glyphcutter_api_Span_glyphcutter_api_Span_ : DFunc := ⟨[.tmp 4],
 (.seq (.ops [⟨some 4, .mv (.const (.int .i64 0)), none⟩])
 (.seq (.seq (.ops [⟨some 6, .mv (.tmp 0), none⟩,
 ⟨some 7, .len 0 (.tmp 6), none⟩,
 ⟨some 8, .mv (.const (.int .i64 0)), none⟩])
 (.block 0
 (.loop
 (.seq (.ops [⟨some 9, .bin .lss (.tmp 8) (.tmp 7), none⟩])
 (.seq (.cond (.tmp 9)
 .skip
 (.exit 0))
 (.seq (.block 1
 (.seq (.ops [⟨some 10, .mv (.tmp 8), none⟩,
 ⟨some 5, .mv (.tmp 10), none⟩])
 (.seq (.ops [⟨some 11, .mv (.tmp 1), none⟩,
 ⟨some 12, .mv (.tmp 0), none⟩,
 ⟨some 13, .mv (.tmp 5), none⟩,
 ⟨some 14, .indexAddr 2 (.tmp 12) (.tmp 13), none⟩,
 ⟨some 15, .load false 2 true (.tmp 14), none⟩,
 ⟨some 16, .callv 0 (.tmp 11) [(.tmp 15)], none⟩])
 (.cond (.tmp 16)
 (.seq (.ops [⟨some 17, .mv (.tmp 5), none⟩,
 ⟨some 4, .mv (.tmp 17), none⟩])
 .ret)
 .skip))))
 (.ops [⟨some 18, .bin .add (.tmp 8) (.const (.int .i64 1)), none⟩,
 ⟨some 8, .mv (.tmp 18), none⟩])))))))
 (.seq (.ops [⟨some 4, .mv (.const (.int .i64 (-1))), none⟩])
 .ret)))⟩
def d_slices_ContainsFunc___int_int_ : DFunc := ⟨[.tmp 4],
 (.seq (.ops [⟨some 4, .mv (.const (.bool false)), none⟩])
 (.seq (.ops [⟨some 5, .mv (.tmp 0), none⟩,
 ⟨some 6, .mv (.tmp 1), none⟩,
 ⟨some 7, .call 0 52 [(.tmp 5), (.tmp 6)], none⟩,
 ⟨some 8, .bin .geq (.tmp 7) (.const (.int .i64 0)), none⟩,
 ⟨some 4, .mv (.tmp 8), none⟩])
 .ret))⟩
def d_slices_IndexFunc___int_int_ : DFunc := ⟨[.tmp 4],
 (.seq (.ops [⟨some 4, .mv (.const (.int .i64 0)), none⟩])
 (.seq (.seq (.ops [⟨some 6, .mv (.tmp 0), none⟩,
 ⟨some 7, .len 0 (.tmp 6), none⟩,
 ⟨some 8, .mv (.const (.int .i64 0)), none⟩])
 (.block 0
 (.loop
 (.seq (.ops [⟨some 9, .bin .lss (.tmp 8) (.tmp 7), none⟩])
 (.seq (.cond (.tmp 9)
 .skip
 (.exit 0))
 (.seq (.block 1
 (.seq (.ops [⟨some 10, .mv (.tmp 8), none⟩,
 ⟨some 5, .mv (.tmp 10), none⟩])
 (.seq (.ops [⟨some 11, .mv (.tmp 1), none⟩,
 ⟨some 12, .mv (.tmp 0), none⟩,
 ⟨some 13, .mv (.tmp 5), none⟩,
 ⟨some 14, .indexAddr 1 (.tmp 12) (.tmp 13), none⟩,
 ⟨some 15, .load false 1 false (.tmp 14), none⟩,
 ⟨some 16, .callv 0 (.tmp 11) [(.tmp 15)], none⟩])
 (.cond (.tmp 16)
 (.seq (.ops [⟨some 17, .mv (.tmp 5), none⟩,
 ⟨some 4, .mv (.tmp 17), none⟩])
 .ret)
 .skip))))
 (.ops [⟨some 18, .bin .add (.tmp 8) (.const (.int .i64 1)), none⟩,
 ⟨some 8, .mv (.tmp 18), none⟩])))))))
 (.seq (.ops [⟨some 4, .mv (.const (.int .i64 (-1))), none⟩])
 .ret)))⟩
def d_slices_ContainsFunc___glyphcutter_api_Edge_glyphcutter_api_Edge_ : DFunc := ⟨[.tmp 4],
 (.seq (.ops [⟨some 4, .mv (.const (.bool false)), none⟩])
 (.seq (.ops [⟨some 5, .mv (.tmp 0), none⟩,
 ⟨some 6, .mv (.tmp 1), none⟩,
 ⟨some 7, .call 0 51 [(.tmp 5), (.tmp 6)], none⟩,
 ⟨some 8, .bin .geq (.tmp 7) (.const (.int .i64 0)), none⟩,
 ⟨some 4, .mv (.tmp 8), none⟩])
 .ret))⟩
def d_slices_IndexFunc___glyphcutter_api_Edge_glyphcutter_api_Edge_ : DFunc := ⟨[.tmp 4],
 (.seq (.ops [⟨some 4, .mv (.const (.int .i64 0)), none⟩])
 (.seq (.seq (.ops [⟨some 6, .mv (.tmp 0), none⟩,
 ⟨some 7, .len 0 (.tmp 6), none⟩,
 ⟨some 8, .mv (.const (.int .i64 0)), none⟩])
 (.block 0
 (.loop
 (.seq (.ops [⟨some 9, .bin .lss (.tmp 8) (.tmp 7), none⟩])
 (.seq (.cond (.tmp 9)
 .skip
 (.exit 0))
 (.seq (.block 1
 (.seq (.ops [⟨some 10, .mv (.tmp 8), none⟩,
 ⟨some 5, .mv (.tmp 10), none⟩])
 (.seq (.ops [⟨some 11, .mv (.tmp 1), none⟩,
 ⟨some 12, .mv (.tmp 0), none⟩,
 ⟨some 13, .mv (.tmp 5), none⟩,
 ⟨some 14, .indexAddr 2 (.tmp 12) (.tmp 13), none⟩,
 ⟨some 15, .load false 2 true (.tmp 14), none⟩,
 ⟨some 16, .callv 0 (.tmp 11) [(.tmp 15)], none⟩])
 (.cond (.tmp 16)
 (.seq (.ops [⟨some 17, .mv (.tmp 5), none⟩,
 ⟨some 4, .mv (.tmp 17), none⟩])
 .ret)
 .skip))))
 (.ops [⟨some 18, .bin .add (.tmp 8) (.const (.int .i64 1)), none⟩,
 ⟨some 8, .mv (.tmp 18), none⟩])))))))
 (.seq (.ops [⟨some 4, .mv (.const (.int .i64 (-1))), none⟩])
 .ret)))⟩
def d_glyphcutter_nfa_Sound_1 : DFunc := ⟨[.tmp 3],
 (.seq (.ops [⟨some 3, .mv (.const (.bool false)), none⟩])
 (.seq (.ops [⟨some 4, .mv (.tmp 0), none⟩,
 ⟨some 5, .bin .lss (.tmp 4) (.const (.int .i64 0)), none⟩,
 ⟨some 6, .mv (.tmp 5), none⟩,
 ⟨some 7, .mv (.tmp 0), (some (6, false))⟩,
 ⟨some 8, .load false 1 false (.tmp 1), (some (6, false))⟩,
 ⟨some 9, .bin .geq (.tmp 7) (.tmp 8), (some (6, false))⟩,
 ⟨some 10, .pick (.tmp 6) (.const (.bool true)) (.tmp 9), none⟩,
 ⟨some 3, .mv (.tmp 10), none⟩])
 .ret))⟩
def d_glyphcutter_nfa_Sound_2 : DFunc := ⟨[.tmp 3],
 (.seq (.ops [⟨some 2, .box (.tmp 0), none⟩,
 ⟨some 3, .mv (.const (.bool false)), none⟩])
 (.seq (.ops [⟨some 4, .load false 1 false (.tmp 1), none⟩,
 ⟨some 5, .fieldAddr 0 (.tmp 2), none⟩,
 ⟨some 6, .load false 1 false (.tmp 5), none⟩,
 ⟨some 7, .callv 0 (.tmp 4) [(.tmp 6)], none⟩,
 ⟨some 8, .mv (.tmp 7), none⟩,
 ⟨some 9, .fieldAddr 1 (.tmp 2), (some (8, false))⟩,
 ⟨some 10, .load false 1 false (.tmp 9), (some (8, false))⟩,
 ⟨some 11, .call 1 38 [(.tmp 10)], (some (8, false))⟩,
 ⟨some 12, .fieldAddr 1 (.tmp 2), (some (8, false))⟩,
 ⟨some 13, .load false 1 false (.tmp 12), (some (8, false))⟩,
 ⟨some 14, .call 0 37 [(.tmp 11), (.tmp 13)], (some (8, false))⟩,
 ⟨some 15, .un .not (.tmp 14), (some (8, false))⟩,
 ⟨some 16, .pick (.tmp 8) (.const (.bool true)) (.tmp 15), none⟩,
 ⟨some 3, .mv (.tmp 16), none⟩])
 .ret))⟩
def d_glyphcutter_nfa_Sound : DFunc := ⟨[.tmp 2],
 (.seq (.ops [⟨some 1, .box (.tmp 0), none⟩,
 ⟨some 2, .mv (.const (.bool false)), none⟩])
 (.seq (.ops [⟨some 8, .fieldAddr 2 (.tmp 1), none⟩,
 ⟨some 9, .load false 1 false (.tmp 8), none⟩,
 ⟨some 10, .len 0 (.tmp 9), none⟩,
 ⟨some 3, .alloc [(.int .i64 0)], none⟩,
 ⟨none, .store 1 (.tmp 3) (.tmp 10), none⟩])
 (.seq (.seq (.ops [⟨some 11, .load false 1 false (.tmp 3), none⟩,
 ⟨some 12, .bin .eql (.tmp 11) (.const (.int .i64 0)), none⟩,
 ⟨some 13, .mv (.tmp 12), none⟩,
 ⟨some 14, .load false 1 false (.tmp 3), (some (13, false))⟩,
 ⟨some 15, .bin .gtr (.tmp 14) (.const (.int .i64 2000)), (some (13, false))⟩,
 ⟨some 16, .pick (.tmp 13) (.const (.bool true)) (.tmp 15), none⟩,
 ⟨some 17, .mv (.tmp 16), none⟩,
 ⟨some 18, .fieldAddr 0 (.tmp 1), (some (17, false))⟩,
 ⟨some 19, .load false 1 false (.tmp 18), (some (17, false))⟩,
 ⟨some 20, .len 0 (.tmp 19), (some (17, false))⟩,
 ⟨some 21, .load false 1 false (.tmp 3), (some (17, false))⟩,
 ⟨some 22, .bin .neq (.tmp 20) (.tmp 21), (some (17, false))⟩,
 ⟨some 23, .pick (.tmp 17) (.const (.bool true)) (.tmp 22), none⟩,
 ⟨some 24, .mv (.tmp 23), none⟩,
 ⟨some 25, .fieldAddr 1 (.tmp 1), (some (24, false))⟩,
 ⟨some 26, .load false 1 false (.tmp 25), (some (24, false))⟩,
 ⟨some 27, .len 0 (.tmp 26), (some (24, false))⟩,
 ⟨some 28, .load false 1 false (.tmp 3), (some (24, false))⟩,
 ⟨some 29, .bin .neq (.tmp 27) (.tmp 28), (some (24, false))⟩,
 ⟨some 30, .pick (.tmp 24) (.const (.bool true)) (.tmp 29), none⟩])
 (.cond (.tmp 30)
 (.seq (.ops [⟨some 2, .mv (.const (.bool false)), none⟩])
 .ret)
 .skip))
 (.seq (.ops [⟨some 31, .mkfn 35 [(.tmp 3)], none⟩,
 ⟨some 4, .alloc [.nilf], none⟩,
 ⟨none, .store 1 (.tmp 4) (.tmp 31), none⟩])
 (.seq (.ops [⟨some 32, .mkfn 36 [(.tmp 4)], none⟩,
 ⟨some 5, .mv (.tmp 32), none⟩])
 (.seq (.seq (.ops [⟨some 33, .fieldAddr 2 (.tmp 1), none⟩,
 ⟨some 34, .load false 1 false (.tmp 33), none⟩,
 ⟨some 35, .len 0 (.tmp 34), none⟩,
 ⟨some 36, .mv (.const (.int .i64 0)), none⟩])
 (.block 0
 (.loop
 (.seq (.ops [⟨some 37, .bin .lss (.tmp 36) (.tmp 35), none⟩])
 (.seq (.cond (.tmp 37)
 .skip
 (.exit 0))
 (.seq (.block 1
 (.seq (.ops [⟨some 38, .mv (.tmp 36), none⟩,
 ⟨some 39, .indexAddr 1 (.tmp 34) (.tmp 36), none⟩,
 ⟨some 40, .load false 1 false (.tmp 39), none⟩,
 ⟨some 6, .mv (.tmp 38), none⟩,
 ⟨some 7, .mv (.tmp 40), none⟩])
 (.seq (.ops [⟨some 41, .mv (.tmp 7), none⟩,
 ⟨some 42, .bin .lss (.tmp 41) (.const (.int .i64 (-1))), none⟩,
 ⟨some 43, .mv (.tmp 42), none⟩,
 ⟨some 44, .fieldAddr 0 (.tmp 1), (some (43, false))⟩,
 ⟨some 45, .load false 1 false (.tmp 44), (some (43, false))⟩,
 ⟨some 46, .mv (.tmp 6), (some (43, false))⟩,
 ⟨some 47, .indexAddr 1 (.tmp 45) (.tmp 46), (some (43, false))⟩,
 ⟨some 48, .load false 1 false (.tmp 47), (some (43, false))⟩,
 ⟨some 49, .mv (.tmp 5), (some (43, false))⟩,
 ⟨some 50, .call 0 39 [(.tmp 48), (.tmp 49)], (some (43, false))⟩,
 ⟨some 51, .pick (.tmp 43) (.const (.bool true)) (.tmp 50), none⟩,
 ⟨some 52, .mv (.tmp 51), none⟩,
 ⟨some 53, .fieldAddr 1 (.tmp 1), (some (52, false))⟩,
 ⟨some 54, .load false 1 false (.tmp 53), (some (52, false))⟩,
 ⟨some 55, .mv (.tmp 6), (some (52, false))⟩,
 ⟨some 56, .indexAddr 1 (.tmp 54) (.tmp 55), (some (52, false))⟩,
 ⟨some 57, .load false 1 false (.tmp 56), (some (52, false))⟩,
 ⟨some 58, .load false 1 false (.tmp 4), (some (52, false))⟩,
 ⟨some 59, .call 0 40 [(.tmp 57), (.tmp 58)], (some (52, false))⟩,
 ⟨some 60, .pick (.tmp 52) (.const (.bool true)) (.tmp 59), none⟩])
 (.cond (.tmp 60)
 (.seq (.ops [⟨some 2, .mv (.const (.bool false)), none⟩])
 .ret)
 .skip))))
 (.ops [⟨some 61, .bin .add (.tmp 36) (.const (.int .i64 1)), none⟩,
 ⟨some 36, .mv (.tmp 61), none⟩])))))))
 (.seq (.ops [⟨some 2, .mv (.const (.bool true)), none⟩])
 .ret)))))))⟩
def d_glyphcutter_set_Norm : DFunc := ⟨[.tmp 2],
 (.seq (.ops [⟨some 2, .mv (.const (.rd 0 [] true)), none⟩])
 (.seq (.ops [⟨some 3, .mv (.const (.rd 0 [] true)), none⟩,
 ⟨some 4, .mv (.const (.rd 0 [] true)), none⟩])
 (.seq (.seq (.ops [⟨some 10, .mv (.tmp 0), none⟩,
 ⟨some 11, .len 0 (.tmp 10), none⟩,
 ⟨some 12, .mv (.const (.int .i64 0)), none⟩])
 (.block 0
 (.loop
 (.seq (.ops [⟨some 13, .bin .lss (.tmp 12) (.tmp 11), none⟩])
 (.seq (.cond (.tmp 13)
 .skip
 (.exit 0))
 (.seq (.block 1
 (.seq (.ops [⟨some 14, .indexAddr 2 (.tmp 10) (.tmp 12), none⟩,
 ⟨some 15, .load false 2 true (.tmp 14), none⟩,
 ⟨some 6, .alloc [(.int .i64 0), (.int .i64 0)], none⟩,
 ⟨none, .store 2 (.tmp 6) (.tmp 15), none⟩])
 (.ops [⟨some 16, .mv (.tmp 3), none⟩,
 ⟨some 17, .load false 2 true (.tmp 6), none⟩,
 ⟨some 18, .call 0 47 [(.tmp 17)], none⟩,
 ⟨some 19, .call 0 46 [(.tmp 16), (.tmp 18)], none⟩,
 ⟨some 3, .mv (.tmp 19), none⟩])))
 (.ops [⟨some 20, .bin .add (.tmp 12) (.const (.int .i64 1)), none⟩,
 ⟨some 12, .mv (.tmp 20), none⟩])))))))
 (.seq (.ops [⟨some 21, .mv (.tmp 3), none⟩,
 ⟨some 22, .call 0 48 [(.tmp 21), (.const (.fn 49 []))], none⟩])
 (.seq .skip
 (.seq (.seq (.ops [⟨some 23, .mv (.tmp 3), none⟩,
 ⟨some 24, .len 0 (.tmp 23), none⟩,
 ⟨some 25, .mv (.const (.int .i64 0)), none⟩])
 (.block 2
 (.loop
 (.seq (.ops [⟨some 26, .bin .lss (.tmp 25) (.tmp 24), none⟩])
 (.seq (.cond (.tmp 26)
 .skip
 (.exit 2))
 (.seq (.block 3
 (.seq (.ops [⟨some 27, .indexAddr 2 (.tmp 23) (.tmp 25), none⟩,
 ⟨some 28, .load false 2 true (.tmp 27), none⟩,
 ⟨some 8, .alloc [(.int .i64 0), (.int .i64 0)], none⟩,
 ⟨none, .store 2 (.tmp 8) (.tmp 28), none⟩])
 (.seq (.seq (.ops [⟨some 29, .mv (.tmp 4), none⟩,
 ⟨some 30, .len 0 (.tmp 29), none⟩,
 ⟨some 9, .mv (.tmp 30), none⟩])
 (.seq (.ops [⟨some 31, .mv (.tmp 9), none⟩,
 ⟨some 32, .bin .gtr (.tmp 31) (.const (.int .i64 0)), none⟩,
 ⟨some 33, .mv (.tmp 32), none⟩,
 ⟨some 34, .fieldAddr 0 (.tmp 8), (some (33, true))⟩,
 ⟨some 35, .load false 1 false (.tmp 34), (some (33, true))⟩,
 ⟨some 36, .mv (.tmp 4), (some (33, true))⟩,
 ⟨some 37, .mv (.tmp 9), (some (33, true))⟩,
 ⟨some 38, .bin .sub (.tmp 37) (.const (.int .i64 1)), (some (33, true))⟩,
 ⟨some 39, .indexAddr 2 (.tmp 36) (.tmp 38), (some (33, true))⟩,
 ⟨some 40, .fieldAddr 1 (.tmp 39), (some (33, true))⟩,
 ⟨some 41, .load false 1 false (.tmp 40), (some (33, true))⟩,
 ⟨some 42, .bin .add (.tmp 41) (.const (.int .i64 1)), (some (33, true))⟩,
 ⟨some 43, .bin .leq (.tmp 35) (.tmp 42), (some (33, true))⟩,
 ⟨some 44, .pick (.tmp 33) (.tmp 43) (.const (.bool false)), none⟩])
 (.cond (.tmp 44)
 (.seq (.ops [⟨some 45, .mv (.tmp 4), none⟩,
 ⟨some 46, .mv (.tmp 9), none⟩,
 ⟨some 47, .bin .sub (.tmp 46) (.const (.int .i64 1)), none⟩,
 ⟨some 48, .mv (.tmp 4), none⟩,
 ⟨some 49, .mv (.tmp 9), none⟩,
 ⟨some 50, .bin .sub (.tmp 49) (.const (.int .i64 1)), none⟩,
 ⟨some 51, .indexAddr 2 (.tmp 48) (.tmp 50), none⟩,
 ⟨some 52, .fieldAddr 1 (.tmp 51), none⟩,
 ⟨some 53, .load false 1 false (.tmp 52), none⟩,
 ⟨some 54, .fieldAddr 1 (.tmp 8), none⟩,
 ⟨some 55, .load false 1 false (.tmp 54), none⟩,
 ⟨some 56, .mx [(.tmp 53), (.tmp 55)], none⟩,
 ⟨some 57, .indexAddr 2 (.tmp 45) (.tmp 47), none⟩,
 ⟨some 58, .fieldAddr 1 (.tmp 57), none⟩,
 ⟨none, .store 1 (.tmp 58) (.tmp 56), none⟩])
 (.exit 3))
 .skip)))
 (.ops [⟨some 59, .mv (.tmp 4), none⟩,
 ⟨some 60, .load false 2 true (.tmp 8), none⟩,
 ⟨some 61, .lit 2 1 [(.int .i64 0), (.int .i64 0)] [(0, 2, (.tmp 60))], none⟩,
 ⟨some 62, .append 2 (.tmp 59) (.tmp 61), none⟩,
 ⟨some 4, .mv (.tmp 62), none⟩]))))
 (.ops [⟨some 63, .bin .add (.tmp 25) (.const (.int .i64 1)), none⟩,
 ⟨some 25, .mv (.tmp 63), none⟩])))))))
 (.seq (.ops [⟨some 64, .mv (.tmp 4), none⟩,
 ⟨some 2, .mv (.tmp 64), none⟩])
 .ret)))))))⟩
def d_glyphcutter_set_pieces : DFunc := ⟨[.tmp 2],
 (.seq (.ops [⟨some 1, .box (.tmp 0), none⟩,
 ⟨some 2, .mv (.const .nilf), none⟩])
 (.seq (.ops [⟨some 3, .mkfn 59 [(.tmp 1)], none⟩,
 ⟨some 2, .mv (.tmp 3), none⟩])
 .ret))⟩
def d_glyphcutter_set_pieces_1 : DFunc := ⟨[],
 (.seq (.ops [⟨some 7, .fieldAddr 0 (.tmp 1), none⟩,
 ⟨some 8, .load false 1 false (.tmp 7), none⟩,
 ⟨some 9, .mx [(.tmp 8), (.const (.int .i64 0))], none⟩,
 ⟨some 10, .fieldAddr 1 (.tmp 1), none⟩,
 ⟨some 11, .load false 1 false (.tmp 10), none⟩,
 ⟨some 12, .mn [(.tmp 11), (.const (.int .i64 55295))], none⟩,
 ⟨some 13, .build [(.int .i64 0), (.int .i64 0)] [(0, 1, (.tmp 9)), (1, 1, (.tmp 12))], none⟩,
 ⟨some 3, .alloc [(.int .i64 0), (.int .i64 0)], none⟩,
 ⟨none, .store 2 (.tmp 3) (.tmp 13), none⟩])
 (.seq (.ops [⟨some 14, .fieldAddr 0 (.tmp 1), none⟩,
 ⟨some 15, .load false 1 false (.tmp 14), none⟩,
 ⟨some 16, .mx [(.tmp 15), (.const (.int .i64 57344))], none⟩,
 ⟨some 17, .fieldAddr 1 (.tmp 1), none⟩,
 ⟨some 18, .load false 1 false (.tmp 17), none⟩,
 ⟨some 19, .mn [(.tmp 18), (.const (.int .i64 1114111))], none⟩,
 ⟨some 20, .build [(.int .i64 0), (.int .i64 0)] [(0, 1, (.tmp 16)), (1, 1, (.tmp 19))], none⟩,
 ⟨some 4, .alloc [(.int .i64 0), (.int .i64 0)], none⟩,
 ⟨none, .store 2 (.tmp 4) (.tmp 20), none⟩])
 (.seq (.ops [⟨some 21, .load false 2 true (.tmp 3), none⟩,
 ⟨some 22, .load false 2 true (.tmp 4), none⟩,
 ⟨some 23, .build [(.int .i64 0), (.int .i64 0), (.int .i64 0), (.int .i64 0)] [(0, 2, (.tmp 21)), (2, 2, (.tmp 22))], none⟩,
 ⟨some 24, .mv (.const (.int .i64 0)), none⟩])
 (.block 0
 (.loop
 (.seq (.ops [⟨some 25, .bin .lss (.tmp 24) (.const (.int .i64 2)), none⟩])
 (.seq (.cond (.tmp 25)
 .skip
 (.exit 0))
 (.seq (.block 1
 (.seq (.ops [⟨some 26, .indexA 2 2 true (.tmp 23) (.tmp 24), none⟩,
 ⟨some 6, .alloc [(.int .i64 0), (.int .i64 0)], none⟩,
 ⟨none, .store 2 (.tmp 6) (.tmp 26), none⟩])
 (.seq (.ops [⟨some 27, .fieldAddr 0 (.tmp 6), none⟩,
 ⟨some 28, .load false 1 false (.tmp 27), none⟩,
 ⟨some 29, .fieldAddr 1 (.tmp 6), none⟩,
 ⟨some 30, .load false 1 false (.tmp 29), none⟩,
 ⟨some 31, .bin .leq (.tmp 28) (.tmp 30), none⟩,
 ⟨some 32, .mv (.tmp 31), none⟩,
 ⟨some 33, .mv (.tmp 0), (some (32, true))⟩,
 ⟨some 34, .load false 2 true (.tmp 6), (some (32, true))⟩,
 ⟨some 35, .callv 0 (.tmp 33) [(.tmp 34)], (some (32, true))⟩,
 ⟨some 36, .un .not (.tmp 35), (some (32, true))⟩,
 ⟨some 37, .pick (.tmp 32) (.tmp 36) (.const (.bool false)), none⟩])
 (.cond (.tmp 37)
 .ret
 .skip))))
 (.ops [⟨some 38, .bin .add (.tmp 24) (.const (.int .i64 1)), none⟩,
 ⟨some 24, .mv (.tmp 38), none⟩])))))))))⟩
def d_slices_AppendSeq___glyphcutter_api_Span_glyphcutter_api_Span_ : DFunc := ⟨[.tmp 4],
 (.seq (.ops [⟨some 2, .box (.tmp 0), none⟩,
 ⟨some 4, .mv (.const (.rd 0 [] true)), none⟩])
 (.seq (.seq (.ops [⟨some 6, .mv (.tmp 1), none⟩])
 (.block 0
 (.rangef (.tmp 6) [7]
 (.ops [⟨some 5, .alloc [(.int .i64 0), (.int .i64 0)], none⟩,
 ⟨none, .store 2 (.tmp 5) (.tmp 7), none⟩])
 (.block 1
 (.ops [⟨some 8, .load false 1 false (.tmp 2), none⟩,
 ⟨some 9, .load false 2 true (.tmp 5), none⟩,
 ⟨some 10, .lit 2 1 [(.int .i64 0), (.int .i64 0)] [(0, 2, (.tmp 9))], none⟩,
 ⟨some 11, .append 2 (.tmp 8) (.tmp 10), none⟩,
 ⟨none, .store 1 (.tmp 2) (.tmp 11), none⟩])))))
 (.seq (.ops [⟨some 12, .load false 1 false (.tmp 2), none⟩,
 ⟨some 4, .mv (.tmp 12), none⟩])
 .ret)))⟩
def d_slices_Equal___glyphcutter_api_Span_glyphcutter_api_Span_ : DFunc := ⟨[.tmp 4],
 (.seq (.ops [⟨some 4, .mv (.const (.bool false)), none⟩])
 (.seq (.seq (.ops [⟨some 6, .mv (.tmp 0), none⟩,
 ⟨some 7, .len 0 (.tmp 6), none⟩,
 ⟨some 8, .mv (.tmp 1), none⟩,
 ⟨some 9, .len 0 (.tmp 8), none⟩,
 ⟨some 10, .bin .neq (.tmp 7) (.tmp 9), none⟩])
 (.cond (.tmp 10)
 (.seq (.ops [⟨some 4, .mv (.const (.bool false)), none⟩])
 .ret)
 .skip))
 (.seq (.seq (.ops [⟨some 11, .mv (.tmp 0), none⟩,
 ⟨some 12, .len 0 (.tmp 11), none⟩,
 ⟨some 13, .mv (.const (.int .i64 0)), none⟩])
 (.block 0
 (.loop
 (.seq (.ops [⟨some 14, .bin .lss (.tmp 13) (.tmp 12), none⟩])
 (.seq (.cond (.tmp 14)
 .skip
 (.exit 0))
 (.seq (.block 1
 (.seq (.ops [⟨some 15, .mv (.tmp 13), none⟩,
 ⟨some 5, .mv (.tmp 15), none⟩])
 (.seq (.ops [⟨some 16, .mv (.tmp 0), none⟩,
 ⟨some 17, .mv (.tmp 5), none⟩,
 ⟨some 18, .indexAddr 2 (.tmp 16) (.tmp 17), none⟩,
 ⟨some 19, .load false 2 true (.tmp 18), none⟩,
 ⟨some 20, .mv (.tmp 1), none⟩,
 ⟨some 21, .mv (.tmp 5), none⟩,
 ⟨some 22, .indexAddr 2 (.tmp 20) (.tmp 21), none⟩,
 ⟨some 23, .load false 2 true (.tmp 22), none⟩,
 ⟨some 24, .eqS true 2 (.tmp 19) (.tmp 23), none⟩])
 (.cond (.tmp 24)
 (.seq (.ops [⟨some 4, .mv (.const (.bool false)), none⟩])
 .ret)
 .skip))))
 (.ops [⟨some 25, .bin .add (.tmp 13) (.const (.int .i64 1)), none⟩,
 ⟨some 13, .mv (.tmp 25), none⟩])))))))
 (.seq (.ops [⟨some 4, .mv (.const (.bool true)), none⟩])
 .ret))))⟩
def d_glyphcutter_sim_begin : DFunc := ⟨[.tmp 2],
 (.seq (.ops [⟨some 1, .box (.tmp 0), none⟩,
 ⟨some 2, .mv (.const .nilp), none⟩])
 (.seq (.ops [⟨some 3, .load false 3 true (.tmp 1), none⟩,
 ⟨some 4, .fieldAddr 2 (.tmp 1), none⟩,
 ⟨some 5, .load false 1 false (.tmp 4), none⟩,
 ⟨some 6, .len 0 (.tmp 5), none⟩,
 ⟨some 7, .mkslice [(.bool false)] (.tmp 6) (.tmp 6), none⟩,
 ⟨some 8, .build [(.rd 0 [] true), (.rd 0 [] true), (.rd 0 [] true), (.rd 0 [] true), (.rd 0 [] true)] [(0, 3, (.tmp 3)), (3, 1, (.tmp 7))], none⟩,
 ⟨some 9, .box (.tmp 8), none⟩,
 ⟨some 2, .mv (.tmp 9), none⟩])
 .ret))⟩
def d___glyphcutter_sim_marks__reach : DFunc := ⟨[],
 (.seq (.ops [⟨some 4, .mv (.tmp 0), none⟩,
 ⟨some 5, .nilck (.tmp 4), none⟩,
 ⟨some 6, .fieldAddr 3 (.tmp 5), none⟩,
 ⟨some 7, .load false 1 false (.tmp 6), none⟩,
 ⟨some 8, .mv (.tmp 1), none⟩,
 ⟨some 9, .indexAddr 1 (.tmp 7) (.tmp 8), none⟩,
 ⟨some 10, .load false 1 false (.tmp 9), none⟩,
 ⟨some 11, .un .not (.tmp 10), none⟩])
 (.cond (.tmp 11)
 (.seq (.ops [⟨some 12, .mv (.tmp 0), none⟩,
 ⟨some 13, .nilck (.tmp 12), none⟩,
 ⟨some 14, .fieldAddr 3 (.tmp 13), none⟩,
 ⟨some 15, .load false 1 false (.tmp 14), none⟩,
 ⟨some 16, .mv (.tmp 1), none⟩,
 ⟨some 17, .indexAddr 1 (.tmp 15) (.tmp 16), none⟩,
 ⟨none, .store 1 (.tmp 17) (.const (.bool true)), none⟩])
 (.ops [⟨some 18, .mv (.tmp 0), none⟩,
 ⟨some 19, .mv (.tmp 0), none⟩,
 ⟨some 20, .nilck (.tmp 19), none⟩,
 ⟨some 21, .fieldAddr 4 (.tmp 20), none⟩,
 ⟨some 22, .load false 1 false (.tmp 21), none⟩,
 ⟨some 23, .mv (.tmp 1), none⟩,
 ⟨some 24, .lit 1 1 [(.int .i64 0)] [(0, 1, (.tmp 23))], none⟩,
 ⟨some 25, .append 1 (.tmp 22) (.tmp 24), none⟩,
 ⟨some 26, .nilck (.tmp 18), none⟩,
 ⟨some 27, .fieldAddr 4 (.tmp 26), none⟩,
 ⟨none, .store 1 (.tmp 27) (.tmp 25), none⟩]))
 .skip))⟩
def d___glyphcutter_sim_marks__all : DFunc := ⟨[.tmp 2],
 (.seq (.ops [⟨some 2, .mv (.const (.rd 0 [] true)), none⟩])
 (.seq (.ops [⟨some 3, .mv (.const (.rd 0 [] true)), none⟩])
 (.seq .skip
 (.seq (.block 0
 (.loop
 (.block 1
 (.seq (.ops [⟨some 8, .mv (.tmp 0), none⟩,
 ⟨some 9, .nilck (.tmp 8), none⟩,
 ⟨some 10, .fieldAddr 4 (.tmp 9), none⟩,
 ⟨some 11, .load false 1 false (.tmp 10), none⟩,
 ⟨some 12, .len 0 (.tmp 11), none⟩,
 ⟨some 4, .mv (.tmp 12), none⟩])
 (.seq (.seq (.ops [⟨some 13, .mv (.tmp 4), none⟩,
 ⟨some 14, .bin .eql (.tmp 13) (.const (.int .i64 0)), none⟩])
 (.cond (.tmp 14)
 (.exit 0)
 .skip))
 (.seq (.ops [⟨some 15, .mv (.tmp 0), none⟩,
 ⟨some 16, .nilck (.tmp 15), none⟩,
 ⟨some 17, .fieldAddr 4 (.tmp 16), none⟩,
 ⟨some 18, .load false 1 false (.tmp 17), none⟩,
 ⟨some 19, .mv (.tmp 4), none⟩,
 ⟨some 20, .bin .sub (.tmp 19) (.const (.int .i64 1)), none⟩,
 ⟨some 21, .indexAddr 1 (.tmp 18) (.tmp 20), none⟩,
 ⟨some 22, .load false 1 false (.tmp 21), none⟩,
 ⟨some 5, .mv (.tmp 22), none⟩])
 (.seq (.ops [⟨some 23, .mv (.tmp 0), none⟩,
 ⟨some 24, .mv (.tmp 0), none⟩,
 ⟨some 25, .nilck (.tmp 24), none⟩,
 ⟨some 26, .fieldAddr 4 (.tmp 25), none⟩,
 ⟨some 27, .load false 1 false (.tmp 26), none⟩,
 ⟨some 28, .mv (.tmp 4), none⟩,
 ⟨some 29, .bin .sub (.tmp 28) (.const (.int .i64 1)), none⟩,
 ⟨some 30, .slice 1 (.tmp 27) none (some (.tmp 29)) none, none⟩,
 ⟨some 31, .nilck (.tmp 23), none⟩,
 ⟨some 32, .fieldAddr 4 (.tmp 31), none⟩,
 ⟨none, .store 1 (.tmp 32) (.tmp 30), none⟩])
 (.seq (.ops [⟨some 33, .mv (.tmp 3), none⟩,
 ⟨some 34, .mv (.tmp 5), none⟩,
 ⟨some 35, .lit 1 1 [(.int .i64 0)] [(0, 1, (.tmp 34))], none⟩,
 ⟨some 36, .append 1 (.tmp 33) (.tmp 35), none⟩,
 ⟨some 3, .mv (.tmp 36), none⟩])
 (.seq (.ops [⟨some 37, .mv (.tmp 0), none⟩,
 ⟨some 38, .nilck (.tmp 37), none⟩,
 ⟨some 39, .fieldAddr 0 (.tmp 38), none⟩,
 ⟨some 40, .fieldAddr 1 (.tmp 39), none⟩,
 ⟨some 41, .load false 1 false (.tmp 40), none⟩,
 ⟨some 42, .mv (.tmp 5), none⟩,
 ⟨some 43, .indexAddr 1 (.tmp 41) (.tmp 42), none⟩,
 ⟨some 44, .load false 1 false (.tmp 43), none⟩,
 ⟨some 45, .len 0 (.tmp 44), none⟩,
 ⟨some 46, .mv (.const (.int .i64 0)), none⟩])
 (.block 2
 (.loop
 (.seq (.ops [⟨some 47, .bin .lss (.tmp 46) (.tmp 45), none⟩])
 (.seq (.cond (.tmp 47)
 .skip
 (.exit 2))
 (.seq (.block 3
 (.seq (.ops [⟨some 48, .indexAddr 1 (.tmp 44) (.tmp 46), none⟩,
 ⟨some 49, .load false 1 false (.tmp 48), none⟩,
 ⟨some 7, .mv (.tmp 49), none⟩])
 (.ops [⟨some 50, .mv (.tmp 0), none⟩,
 ⟨some 51, .mv (.tmp 7), none⟩,
 ⟨some 52, .call 0 27 [(.tmp 50), (.tmp 51)], none⟩])))
 (.ops [⟨some 53, .bin .add (.tmp 46) (.const (.int .i64 1)), none⟩,
 ⟨some 46, .mv (.tmp 53), none⟩])))))))))))))))
 (.seq (.ops [⟨some 54, .mv (.tmp 3), none⟩,
 ⟨some 55, .call 0 42 [(.tmp 54)], none⟩])
 (.seq (.ops [⟨some 56, .mv (.tmp 3), none⟩,
 ⟨some 2, .mv (.tmp 56), none⟩])
 .ret))))))⟩
def d_glyphcutter_sim_Start : DFunc := ⟨[.tmp 2],
 (.seq (.ops [⟨some 1, .box (.tmp 0), none⟩,
 ⟨some 2, .mv (.const (.rd 0 [] true)), none⟩])
 (.seq (.seq (.ops [⟨some 4, .load false 3 true (.tmp 1), none⟩,
 ⟨some 5, .call 0 24 [(.tmp 4)], none⟩,
 ⟨some 6, .un .not (.tmp 5), none⟩])
 (.cond (.tmp 6)
 (.seq (.ops [⟨some 2, .mv (.const (.rd 0 [] true)), none⟩])
 .ret)
 .skip))
 (.seq (.ops [⟨some 7, .load false 3 true (.tmp 1), none⟩,
 ⟨some 8, .call 0 26 [(.tmp 7)], none⟩,
 ⟨some 3, .mv (.tmp 8), none⟩])
 (.seq (.ops [⟨some 9, .mv (.tmp 3), none⟩,
 ⟨some 10, .call 0 27 [(.tmp 9), (.const (.int .i64 0))], none⟩])
 (.seq (.ops [⟨some 11, .mv (.tmp 3), none⟩,
 ⟨some 12, .call 0 28 [(.tmp 11)], none⟩,
 ⟨some 2, .mv (.tmp 12), none⟩])
 .ret)))))⟩
def d_glyphcutter_sim_step : DFunc := ⟨[.tmp 6],
 (.seq (.ops [⟨some 3, .box (.tmp 0), none⟩,
 ⟨some 6, .mv (.const (.rd 0 [] true)), none⟩])
 (.seq (.ops [⟨some 12, .load false 3 true (.tmp 3), none⟩,
 ⟨some 13, .call 0 26 [(.tmp 12)], none⟩,
 ⟨some 7, .mv (.tmp 13), none⟩])
 (.seq (.seq (.ops [⟨some 14, .mv (.tmp 1), none⟩,
 ⟨some 15, .len 0 (.tmp 14), none⟩,
 ⟨some 16, .mv (.const (.int .i64 0)), none⟩])
 (.block 0
 (.loop
 (.seq (.ops [⟨some 17, .bin .lss (.tmp 16) (.tmp 15), none⟩])
 (.seq (.cond (.tmp 17)
 .skip
 (.exit 0))
 (.seq (.block 1
 (.seq (.ops [⟨some 18, .indexAddr 1 (.tmp 14) (.tmp 16), none⟩,
 ⟨some 19, .load false 1 false (.tmp 18), none⟩,
 ⟨some 9, .mv (.tmp 19), none⟩])
 (.seq (.seq (.ops [⟨some 20, .mv (.tmp 9), none⟩,
 ⟨some 21, .bin .lss (.tmp 20) (.const (.int .i64 0)), none⟩,
 ⟨some 22, .mv (.tmp 21), none⟩,
 ⟨some 23, .mv (.tmp 9), (some (22, false))⟩,
 ⟨some 24, .fieldAddr 2 (.tmp 3), (some (22, false))⟩,
 ⟨some 25, .load false 1 false (.tmp 24), (some (22, false))⟩,
 ⟨some 26, .len 0 (.tmp 25), (some (22, false))⟩,
 ⟨some 27, .bin .geq (.tmp 23) (.tmp 26), (some (22, false))⟩,
 ⟨some 28, .pick (.tmp 22) (.const (.bool true)) (.tmp 27), none⟩])
 (.cond (.tmp 28)
 (.exit 1)
 .skip))
 (.seq (.ops [⟨some 29, .fieldAddr 0 (.tmp 3), none⟩,
 ⟨some 30, .load false 1 false (.tmp 29), none⟩,
 ⟨some 31, .mv (.tmp 9), none⟩,
 ⟨some 32, .indexAddr 1 (.tmp 30) (.tmp 31), none⟩,
 ⟨some 33, .load false 1 false (.tmp 32), none⟩,
 ⟨some 34, .len 0 (.tmp 33), none⟩,
 ⟨some 35, .mv (.const (.int .i64 0)), none⟩])
 (.block 2
 (.loop
 (.seq (.ops [⟨some 36, .bin .lss (.tmp 35) (.tmp 34), none⟩])
 (.seq (.cond (.tmp 36)
 .skip
 (.exit 2))
 (.seq (.block 3
 (.seq (.ops [⟨some 37, .indexAddr 2 (.tmp 33) (.tmp 35), none⟩,
 ⟨some 38, .load false 2 true (.tmp 37), none⟩,
 ⟨some 11, .alloc [(.int .i64 0), (.rd 0 [] true)], none⟩,
 ⟨none, .store 2 (.tmp 11) (.tmp 38), none⟩])
 (.seq (.ops [⟨some 39, .fieldAddr 1 (.tmp 11), none⟩,
 ⟨some 40, .load false 1 false (.tmp 39), none⟩,
 ⟨some 41, .mv (.tmp 2), none⟩,
 ⟨some 42, .call 0 41 [(.tmp 40), (.tmp 41)], none⟩])
 (.cond (.tmp 42)
 (.ops [⟨some 43, .mv (.tmp 7), none⟩,
 ⟨some 44, .fieldAddr 0 (.tmp 11), none⟩,
 ⟨some 45, .load false 1 false (.tmp 44), none⟩,
 ⟨some 46, .call 0 27 [(.tmp 43), (.tmp 45)], none⟩])
 .skip))))
 (.ops [⟨some 47, .bin .add (.tmp 35) (.const (.int .i64 1)), none⟩,
 ⟨some 35, .mv (.tmp 47), none⟩]))))))))))
 (.ops [⟨some 48, .bin .add (.tmp 16) (.const (.int .i64 1)), none⟩,
 ⟨some 16, .mv (.tmp 48), none⟩])))))))
 (.seq (.ops [⟨some 49, .mv (.tmp 7), none⟩,
 ⟨some 50, .call 0 28 [(.tmp 49)], none⟩,
 ⟨some 6, .mv (.tmp 50), none⟩])
 .ret))))⟩
def d_glyphcutter_sim_Step : DFunc := ⟨[.tmp 6],
 (.seq (.ops [⟨some 3, .box (.tmp 0), none⟩,
 ⟨some 6, .mv (.const (.rd 0 [] true)), none⟩])
 (.seq (.seq (.ops [⟨some 7, .load false 3 true (.tmp 3), none⟩,
 ⟨some 8, .call 0 24 [(.tmp 7)], none⟩,
 ⟨some 9, .un .not (.tmp 8), none⟩])
 (.cond (.tmp 9)
 (.seq (.ops [⟨some 6, .mv (.const (.rd 0 [] true)), none⟩])
 .ret)
 .skip))
 (.seq (.ops [⟨some 10, .load false 3 true (.tmp 3), none⟩,
 ⟨some 11, .mv (.tmp 1), none⟩,
 ⟨some 12, .mv (.tmp 2), none⟩,
 ⟨some 13, .call 0 25 [(.tmp 10), (.tmp 11), (.tmp 12)], none⟩,
 ⟨some 6, .mv (.tmp 13), none⟩])
 .ret)))⟩
def d_glyphcutter_sim_tags : DFunc := ⟨[.tmp 4],
 (.seq (.ops [⟨some 2, .box (.tmp 0), none⟩,
 ⟨some 4, .mv (.const (.rd 0 [] true)), none⟩])
 (.seq (.ops [⟨some 5, .mv (.const (.rd 0 [] true)), none⟩])
 (.seq (.seq (.ops [⟨some 8, .mv (.tmp 1), none⟩,
 ⟨some 9, .len 0 (.tmp 8), none⟩,
 ⟨some 10, .mv (.const (.int .i64 0)), none⟩])
 (.block 0
 (.loop
 (.seq (.ops [⟨some 11, .bin .lss (.tmp 10) (.tmp 9), none⟩])
 (.seq (.cond (.tmp 11)
 .skip
 (.exit 0))
 (.seq (.block 1
 (.seq (.ops [⟨some 12, .indexAddr 1 (.tmp 8) (.tmp 10), none⟩,
 ⟨some 13, .load false 1 false (.tmp 12), none⟩,
 ⟨some 7, .mv (.tmp 13), none⟩])
 (.seq (.ops [⟨some 14, .mv (.tmp 7), none⟩,
 ⟨some 15, .bin .geq (.tmp 14) (.const (.int .i64 0)), none⟩,
 ⟨some 16, .mv (.tmp 15), none⟩,
 ⟨some 17, .mv (.tmp 7), (some (16, true))⟩,
 ⟨some 18, .fieldAddr 2 (.tmp 2), (some (16, true))⟩,
 ⟨some 19, .load false 1 false (.tmp 18), (some (16, true))⟩,
 ⟨some 20, .len 0 (.tmp 19), (some (16, true))⟩,
 ⟨some 21, .bin .lss (.tmp 17) (.tmp 20), (some (16, true))⟩,
 ⟨some 22, .pick (.tmp 16) (.tmp 21) (.const (.bool false)), none⟩,
 ⟨some 23, .mv (.tmp 22), none⟩,
 ⟨some 24, .fieldAddr 2 (.tmp 2), (some (23, true))⟩,
 ⟨some 25, .load false 1 false (.tmp 24), (some (23, true))⟩,
 ⟨some 26, .mv (.tmp 7), (some (23, true))⟩,
 ⟨some 27, .indexAddr 1 (.tmp 25) (.tmp 26), (some (23, true))⟩,
 ⟨some 28, .load false 1 false (.tmp 27), (some (23, true))⟩,
 ⟨some 29, .bin .geq (.tmp 28) (.const (.int .i64 0)), (some (23, true))⟩,
 ⟨some 30, .pick (.tmp 23) (.tmp 29) (.const (.bool false)), none⟩])
 (.cond (.tmp 30)
 (.ops [⟨some 31, .mv (.tmp 5), none⟩,
 ⟨some 32, .fieldAddr 2 (.tmp 2), none⟩,
 ⟨some 33, .load false 1 false (.tmp 32), none⟩,
 ⟨some 34, .mv (.tmp 7), none⟩,
 ⟨some 35, .indexAddr 1 (.tmp 33) (.tmp 34), none⟩,
 ⟨some 36, .load false 1 false (.tmp 35), none⟩,
 ⟨some 37, .lit 1 1 [(.int .i64 0)] [(0, 1, (.tmp 36))], none⟩,
 ⟨some 38, .append 1 (.tmp 31) (.tmp 37), none⟩,
 ⟨some 5, .mv (.tmp 38), none⟩])
 .skip))))
 (.ops [⟨some 39, .bin .add (.tmp 10) (.const (.int .i64 1)), none⟩,
 ⟨some 10, .mv (.tmp 39), none⟩])))))))
 (.seq (.ops [⟨some 40, .mv (.tmp 5), none⟩,
 ⟨some 41, .call 0 42 [(.tmp 40)], none⟩])
 (.seq (.ops [⟨some 42, .mv (.tmp 5), none⟩,
 ⟨some 43, .call 0 43 [(.tmp 42)], none⟩,
 ⟨some 4, .mv (.tmp 43), none⟩])
 .ret)))))⟩
def d_glyphcutter_sim_Tags : DFunc := ⟨[.tmp 4],
 (.seq (.ops [⟨some 2, .box (.tmp 0), none⟩,
 ⟨some 4, .mv (.const (.rd 0 [] true)), none⟩])
 (.seq (.seq (.ops [⟨some 5, .load false 3 true (.tmp 2), none⟩,
 ⟨some 6, .call 0 24 [(.tmp 5)], none⟩,
 ⟨some 7, .un .not (.tmp 6), none⟩])
 (.cond (.tmp 7)
 (.seq (.ops [⟨some 4, .mv (.const (.rd 0 [] true)), none⟩])
 .ret)
 .skip))
 (.seq (.ops [⟨some 8, .load false 3 true (.tmp 2), none⟩,
 ⟨some 9, .mv (.tmp 1), none⟩,
 ⟨some 10, .call 0 30 [(.tmp 8), (.tmp 9)], none⟩,
 ⟨some 4, .mv (.tmp 10), none⟩])
 .ret)))⟩
def d_slices_Compact___int_int_ : DFunc := ⟨[.tmp 2],
 (.seq (.ops [⟨some 2, .mv (.const (.rd 0 [] true)), none⟩])
 (.seq (.seq (.ops [⟨some 6, .mv (.tmp 0), none⟩,
 ⟨some 7, .len 0 (.tmp 6), none⟩,
 ⟨some 8, .bin .lss (.tmp 7) (.const (.int .i64 2)), none⟩])
 (.cond (.tmp 8)
 (.seq (.ops [⟨some 9, .mv (.tmp 0), none⟩,
 ⟨some 2, .mv (.tmp 9), none⟩])
 .ret)
 .skip))
 (.seq (.seq (.ops [⟨some 3, .mv (.const (.int .i64 1)), none⟩])
 (.block 0
 (.loop
 (.seq (.seq (.ops [⟨some 10, .mv (.tmp 3), none⟩,
 ⟨some 11, .mv (.tmp 0), none⟩,
 ⟨some 12, .len 0 (.tmp 11), none⟩,
 ⟨some 13, .bin .lss (.tmp 10) (.tmp 12), none⟩])
 (.cond (.tmp 13)
 .skip
 (.exit 0)))
 (.seq (.block 1
 (.seq (.ops [⟨some 16, .mv (.tmp 0), none⟩,
 ⟨some 17, .mv (.tmp 3), none⟩,
 ⟨some 18, .indexAddr 1 (.tmp 16) (.tmp 17), none⟩,
 ⟨some 19, .load false 1 false (.tmp 18), none⟩,
 ⟨some 20, .mv (.tmp 0), none⟩,
 ⟨some 21, .mv (.tmp 3), none⟩,
 ⟨some 22, .bin .sub (.tmp 21) (.const (.int .i64 1)), none⟩,
 ⟨some 23, .indexAddr 1 (.tmp 20) (.tmp 22), none⟩,
 ⟨some 24, .load false 1 false (.tmp 23), none⟩,
 ⟨some 25, .bin .eql (.tmp 19) (.tmp 24), none⟩])
 (.cond (.tmp 25)
 (.seq (.ops [⟨some 26, .mv (.tmp 0), none⟩,
 ⟨some 27, .mv (.tmp 3), none⟩,
 ⟨some 28, .slice 1 (.tmp 26) (some (.tmp 27)) none none, none⟩,
 ⟨some 4, .mv (.tmp 28), none⟩])
 (.seq (.seq (.ops [⟨some 5, .mv (.const (.int .i64 1)), none⟩])
 (.block 2
 (.loop
 (.seq (.seq (.ops [⟨some 29, .mv (.tmp 5), none⟩,
 ⟨some 30, .mv (.tmp 4), none⟩,
 ⟨some 31, .len 0 (.tmp 30), none⟩,
 ⟨some 32, .bin .lss (.tmp 29) (.tmp 31), none⟩])
 (.cond (.tmp 32)
 .skip
 (.exit 2)))
 (.seq (.block 3
 (.seq (.ops [⟨some 35, .mv (.tmp 4), none⟩,
 ⟨some 36, .mv (.tmp 5), none⟩,
 ⟨some 37, .indexAddr 1 (.tmp 35) (.tmp 36), none⟩,
 ⟨some 38, .load false 1 false (.tmp 37), none⟩,
 ⟨some 39, .mv (.tmp 4), none⟩,
 ⟨some 40, .mv (.tmp 5), none⟩,
 ⟨some 41, .bin .sub (.tmp 40) (.const (.int .i64 1)), none⟩,
 ⟨some 42, .indexAddr 1 (.tmp 39) (.tmp 41), none⟩,
 ⟨some 43, .load false 1 false (.tmp 42), none⟩,
 ⟨some 44, .bin .neq (.tmp 38) (.tmp 43), none⟩])
 (.cond (.tmp 44)
 (.seq (.ops [⟨some 45, .mv (.tmp 0), none⟩,
 ⟨some 46, .mv (.tmp 3), none⟩,
 ⟨some 47, .mv (.tmp 4), none⟩,
 ⟨some 48, .mv (.tmp 5), none⟩,
 ⟨some 49, .indexAddr 1 (.tmp 47) (.tmp 48), none⟩,
 ⟨some 50, .load false 1 false (.tmp 49), none⟩,
 ⟨some 51, .indexAddr 1 (.tmp 45) (.tmp 46), none⟩,
 ⟨none, .store 1 (.tmp 51) (.tmp 50), none⟩])
 (.ops [⟨some 52, .mv (.tmp 3), none⟩,
 ⟨some 53, .bin .add (.tmp 52) (.const (.int .i64 1)), none⟩,
 ⟨some 3, .mv (.tmp 53), none⟩]))
 .skip)))
 (.ops [⟨some 33, .mv (.tmp 5), none⟩,
 ⟨some 34, .bin .add (.tmp 33) (.const (.int .i64 1)), none⟩,
 ⟨some 5, .mv (.tmp 34), none⟩]))))))
 (.seq (.ops [⟨some 54, .mv (.tmp 0), none⟩,
 ⟨some 55, .mv (.tmp 3), none⟩,
 ⟨some 56, .slice 1 (.tmp 54) (some (.tmp 55)) none none, none⟩,
 ⟨none, .clear [(.int .i64 0)] (.tmp 56), none⟩])
 (.seq (.ops [⟨some 57, .mv (.tmp 0), none⟩,
 ⟨some 58, .mv (.tmp 3), none⟩,
 ⟨some 59, .slice 1 (.tmp 57) none (some (.tmp 58)) none, none⟩,
 ⟨some 2, .mv (.tmp 59), none⟩])
 .ret))))
 .skip)))
 (.ops [⟨some 14, .mv (.tmp 3), none⟩,
 ⟨some 15, .bin .add (.tmp 14) (.const (.int .i64 1)), none⟩,
 ⟨some 3, .mv (.tmp 15), none⟩]))))))
 (.seq (.ops [⟨some 60, .mv (.tmp 0), none⟩,
 ⟨some 2, .mv (.tmp 60), none⟩])
 .ret))))⟩
structure C1Lib (Φ : Lib) : Prop where
 f41 : Φ 41 = some (.code d_glyphcutter_set_Has)
 f54 : Φ 54 = some (.code d_glyphcutter_set_Has_1)
 f53 : Φ 53 = some (.code d_slices_ContainsFunc___glyphcutter_api_Span_glyphcutter_api_Span_)
 f62 : Φ 62 = some (.code d_slices_IndexFunc___glyphcutter_api_Span_glyphcutter_api_Span_)
 f40 : Φ 40 = some (.code d_slices_ContainsFunc___int_int_)
 f52 : Φ 52 = some (.code d_slices_IndexFunc___int_int_)
 f39 : Φ 39 = some (.code d_slices_ContainsFunc___glyphcutter_api_Edge_glyphcutter_api_Edge_)
 f51 : Φ 51 = some (.code d_slices_IndexFunc___glyphcutter_api_Edge_glyphcutter_api_Edge_)
 f35 : Φ 35 = some (.code d_glyphcutter_nfa_Sound_1)
 f36 : Φ 36 = some (.code d_glyphcutter_nfa_Sound_2)
 f24 : Φ 24 = some (.code d_glyphcutter_nfa_Sound)
 f38 : Φ 38 = some (.code d_glyphcutter_set_Norm)
 f47 : Φ 47 = some (.code d_glyphcutter_set_pieces)
 f59 : Φ 59 = some (.code d_glyphcutter_set_pieces_1)
 f46 : Φ 46 = some (.code d_slices_AppendSeq___glyphcutter_api_Span_glyphcutter_api_Span_)
 f37 : Φ 37 = some (.code d_slices_Equal___glyphcutter_api_Span_glyphcutter_api_Span_)
 f26 : Φ 26 = some (.code d_glyphcutter_sim_begin)
 f27 : Φ 27 = some (.code d___glyphcutter_sim_marks__reach)
 f28 : Φ 28 = some (.code d___glyphcutter_sim_marks__all)
 f12 : Φ 12 = some (.code d_glyphcutter_sim_Start)
 f25 : Φ 25 = some (.code d_glyphcutter_sim_step)
 f9 : Φ 9 = some (.code d_glyphcutter_sim_Step)
 f30 : Φ 30 = some (.code d_glyphcutter_sim_tags)
 f16 : Φ 16 = some (.code d_glyphcutter_sim_Tags)
 f43 : Φ 43 = some (.code d_slices_Compact___int_int_)
end Go.Proofs.YtdldfflfbfpngaaGreatDoor
namespace Go.Proofs.YtdldfflfbfpngaaGreatDoor
open Go
def d_glyphcutter_glyphcutterref01_scalar : DFunc := ⟨[.tmp 2],
 (.seq (.ops [⟨some 2, .mv (.const (.bool false)), none⟩])
 (.seq (.ops [⟨some 3, .mv (.tmp 0), none⟩,
 ⟨some 4, .bin .geq (.tmp 3) (.const (.int .i64 0)), none⟩,
 ⟨some 5, .mv (.tmp 4), none⟩,
 ⟨some 6, .mv (.tmp 0), (some (5, true))⟩,
 ⟨some 7, .bin .leq (.tmp 6) (.const (.int .i64 1114111)), (some (5, true))⟩,
 ⟨some 8, .pick (.tmp 5) (.tmp 7) (.const (.bool false)), none⟩,
 ⟨some 9, .mv (.tmp 8), none⟩,
 ⟨some 10, .mv (.tmp 0), (some (9, true))⟩,
 ⟨some 11, .bin .lss (.tmp 10) (.const (.int .i64 55296)), (some (9, true))⟩,
 ⟨some 12, .mv (.tmp 11), (some (9, true))⟩,
 ⟨some 13, .mv (.tmp 0), (some (12, false))⟩,
 ⟨some 14, .bin .gtr (.tmp 13) (.const (.int .i64 57343)), (some (12, false))⟩,
 ⟨some 15, .pick (.tmp 12) (.const (.bool true)) (.tmp 14), (some (9, true))⟩,
 ⟨some 16, .pick (.tmp 9) (.tmp 15) (.const (.bool false)), none⟩,
 ⟨some 2, .mv (.tmp 16), none⟩])
 .ret))⟩
def d_glyphcutter_glyphcutterref01_Has : DFunc := ⟨[.tmp 4],
 (.seq (.ops [⟨some 4, .mv (.const (.bool false)), none⟩])
 (.seq (.seq (.ops [⟨some 5, .mv (.const (.int .i64 0)), none⟩])
 (.block 0
 (.loop
 (.seq (.seq (.ops [⟨some 6, .mv (.tmp 5), none⟩,
 ⟨some 7, .mv (.tmp 0), none⟩,
 ⟨some 8, .len 0 (.tmp 7), none⟩,
 ⟨some 9, .bin .lss (.tmp 6) (.tmp 8), none⟩])
 (.cond (.tmp 9)
 .skip
 (.exit 0)))
 (.seq (.block 1
 (.seq (.ops [⟨some 12, .mv (.tmp 1), none⟩,
 ⟨some 13, .mv (.tmp 0), none⟩,
 ⟨some 14, .mv (.tmp 5), none⟩,
 ⟨some 15, .indexAddr 2 (.tmp 13) (.tmp 14), none⟩,
 ⟨some 16, .fieldAddr 0 (.tmp 15), none⟩,
 ⟨some 17, .load false 1 false (.tmp 16), none⟩,
 ⟨some 18, .bin .geq (.tmp 12) (.tmp 17), none⟩,
 ⟨some 19, .mv (.tmp 18), none⟩,
 ⟨some 20, .mv (.tmp 1), (some (19, true))⟩,
 ⟨some 21, .mv (.tmp 0), (some (19, true))⟩,
 ⟨some 22, .mv (.tmp 5), (some (19, true))⟩,
 ⟨some 23, .indexAddr 2 (.tmp 21) (.tmp 22), (some (19, true))⟩,
 ⟨some 24, .fieldAddr 1 (.tmp 23), (some (19, true))⟩,
 ⟨some 25, .load false 1 false (.tmp 24), (some (19, true))⟩,
 ⟨some 26, .bin .leq (.tmp 20) (.tmp 25), (some (19, true))⟩,
 ⟨some 27, .pick (.tmp 19) (.tmp 26) (.const (.bool false)), none⟩])
 (.cond (.tmp 27)
 (.seq (.ops [⟨some 28, .mv (.tmp 1), none⟩,
 ⟨some 29, .call 0 44 [(.tmp 28)], none⟩,
 ⟨some 4, .mv (.tmp 29), none⟩])
 .ret)
 .skip)))
 (.ops [⟨some 10, .mv (.tmp 5), none⟩,
 ⟨some 11, .bin .add (.tmp 10) (.const (.int .i64 1)), none⟩,
 ⟨some 5, .mv (.tmp 11), none⟩]))))))
 (.seq (.ops [⟨some 4, .mv (.const (.bool false)), none⟩])
 .ret)))⟩
def d_glyphcutter_glyphcutterref01_Alike : DFunc := ⟨[.tmp 4],
 (.seq (.ops [⟨some 4, .mv (.const (.bool false)), none⟩])
 (.seq (.seq (.ops [⟨some 6, .mv (.tmp 0), none⟩,
 ⟨some 7, .len 0 (.tmp 6), none⟩,
 ⟨some 8, .mv (.tmp 1), none⟩,
 ⟨some 9, .len 0 (.tmp 8), none⟩,
 ⟨some 10, .bin .neq (.tmp 7) (.tmp 9), none⟩])
 (.cond (.tmp 10)
 (.seq (.ops [⟨some 4, .mv (.const (.bool false)), none⟩])
 .ret)
 .skip))
 (.seq (.seq (.ops [⟨some 5, .mv (.const (.int .i64 0)), none⟩])
 (.block 0
 (.loop
 (.seq (.seq (.ops [⟨some 11, .mv (.tmp 5), none⟩,
 ⟨some 12, .mv (.tmp 0), none⟩,
 ⟨some 13, .len 0 (.tmp 12), none⟩,
 ⟨some 14, .bin .lss (.tmp 11) (.tmp 13), none⟩])
 (.cond (.tmp 14)
 .skip
 (.exit 0)))
 (.seq (.block 1
 (.seq (.ops [⟨some 17, .mv (.tmp 0), none⟩,
 ⟨some 18, .mv (.tmp 5), none⟩,
 ⟨some 19, .indexAddr 2 (.tmp 17) (.tmp 18), none⟩,
 ⟨some 20, .load false 2 true (.tmp 19), none⟩,
 ⟨some 21, .mv (.tmp 1), none⟩,
 ⟨some 22, .mv (.tmp 5), none⟩,
 ⟨some 23, .indexAddr 2 (.tmp 21) (.tmp 22), none⟩,
 ⟨some 24, .load false 2 true (.tmp 23), none⟩,
 ⟨some 25, .eqS true 2 (.tmp 20) (.tmp 24), none⟩])
 (.cond (.tmp 25)
 (.seq (.ops [⟨some 4, .mv (.const (.bool false)), none⟩])
 .ret)
 .skip)))
 (.ops [⟨some 15, .mv (.tmp 5), none⟩,
 ⟨some 16, .bin .add (.tmp 15) (.const (.int .i64 1)), none⟩,
 ⟨some 5, .mv (.tmp 16), none⟩]))))))
 (.seq (.ops [⟨some 4, .mv (.const (.bool true)), none⟩])
 .ret))))⟩
def d_glyphcutter_glyphcutterref01_lay : DFunc := ⟨[.tmp 4],
 (.seq (.ops [⟨some 4, .mv (.const (.rd 0 [] true)), none⟩])
 (.seq (.ops [⟨some 5, .mv (.const (.rd 0 [] true)), none⟩])
 (.seq (.ops [⟨some 6, .mv (.const (.int .i64 0)), none⟩])
 (.seq (.block 0
 (.loop
 (.seq (.seq (.ops [⟨some 7, .mv (.tmp 6), none⟩,
 ⟨some 8, .mv (.tmp 0), none⟩,
 ⟨some 9, .len 0 (.tmp 8), none⟩,
 ⟨some 10, .bin .lss (.tmp 7) (.tmp 9), none⟩,
 ⟨some 11, .mv (.tmp 10), none⟩,
 ⟨some 12, .mv (.tmp 0), (some (11, true))⟩,
 ⟨some 13, .mv (.tmp 6), (some (11, true))⟩,
 ⟨some 14, .indexAddr 1 (.tmp 12) (.tmp 13), (some (11, true))⟩,
 ⟨some 15, .load false 1 false (.tmp 14), (some (11, true))⟩,
 ⟨some 16, .mv (.tmp 1), (some (11, true))⟩,
 ⟨some 17, .bin .lss (.tmp 15) (.tmp 16), (some (11, true))⟩,
 ⟨some 18, .pick (.tmp 11) (.tmp 17) (.const (.bool false)), none⟩])
 (.cond (.tmp 18)
 .skip
 (.exit 0)))
 (.block 1
 (.seq (.ops [⟨some 19, .mv (.tmp 5), none⟩,
 ⟨some 20, .mv (.tmp 0), none⟩,
 ⟨some 21, .mv (.tmp 6), none⟩,
 ⟨some 22, .indexAddr 1 (.tmp 20) (.tmp 21), none⟩,
 ⟨some 23, .load false 1 false (.tmp 22), none⟩,
 ⟨some 24, .lit 1 1 [(.int .i64 0)] [(0, 1, (.tmp 23))], none⟩,
 ⟨some 25, .append 1 (.tmp 19) (.tmp 24), none⟩,
 ⟨some 5, .mv (.tmp 25), none⟩])
 (.ops [⟨some 26, .mv (.tmp 6), none⟩,
 ⟨some 27, .bin .add (.tmp 26) (.const (.int .i64 1)), none⟩,
 ⟨some 6, .mv (.tmp 27), none⟩]))))))
 (.seq (.seq (.ops [⟨some 28, .mv (.tmp 6), none⟩,
 ⟨some 29, .mv (.tmp 0), none⟩,
 ⟨some 30, .len 0 (.tmp 29), none⟩,
 ⟨some 31, .bin .lss (.tmp 28) (.tmp 30), none⟩,
 ⟨some 32, .mv (.tmp 31), none⟩,
 ⟨some 33, .mv (.tmp 0), (some (32, true))⟩,
 ⟨some 34, .mv (.tmp 6), (some (32, true))⟩,
 ⟨some 35, .indexAddr 1 (.tmp 33) (.tmp 34), (some (32, true))⟩,
 ⟨some 36, .load false 1 false (.tmp 35), (some (32, true))⟩,
 ⟨some 37, .mv (.tmp 1), (some (32, true))⟩,
 ⟨some 38, .bin .eql (.tmp 36) (.tmp 37), (some (32, true))⟩,
 ⟨some 39, .pick (.tmp 32) (.tmp 38) (.const (.bool false)), none⟩])
 (.cond (.tmp 39)
 (.ops [⟨some 40, .mv (.tmp 6), none⟩,
 ⟨some 41, .bin .add (.tmp 40) (.const (.int .i64 1)), none⟩,
 ⟨some 6, .mv (.tmp 41), none⟩])
 .skip))
 (.seq (.ops [⟨some 42, .mv (.tmp 5), none⟩,
 ⟨some 43, .mv (.tmp 1), none⟩,
 ⟨some 44, .lit 1 1 [(.int .i64 0)] [(0, 1, (.tmp 43))], none⟩,
 ⟨some 45, .append 1 (.tmp 42) (.tmp 44), none⟩,
 ⟨some 5, .mv (.tmp 45), none⟩])
 (.seq (.ops [⟨some 46, .mv (.tmp 5), none⟩,
 ⟨some 47, .mv (.tmp 0), none⟩,
 ⟨some 48, .mv (.tmp 6), none⟩,
 ⟨some 49, .slice 1 (.tmp 47) (some (.tmp 48)) none none, none⟩,
 ⟨some 50, .append 1 (.tmp 46) (.tmp 49), none⟩,
 ⟨some 5, .mv (.tmp 50), none⟩])
 (.seq (.ops [⟨some 51, .mv (.tmp 5), none⟩,
 ⟨some 4, .mv (.tmp 51), none⟩])
 .ret))))))))⟩
def d_glyphcutter_glyphcutterref01_edges : DFunc := ⟨[.tmp 2],
 (.seq (.ops [⟨some 2, .mv (.const (.rd 0 [] true)), none⟩])
 (.seq (.ops [⟨some 5, .call 0 58 [(.const (.rd 0 [] true)), (.const (.int .i64 0))], none⟩,
 ⟨some 6, .call 0 58 [(.tmp 5), (.const (.int .i64 57344))], none⟩,
 ⟨some 3, .mv (.tmp 6), none⟩])
 (.seq (.seq (.ops [⟨some 4, .mv (.const (.int .i64 0)), none⟩])
 (.block 0
 (.loop
 (.seq (.seq (.ops [⟨some 7, .mv (.tmp 4), none⟩,
 ⟨some 8, .mv (.tmp 0), none⟩,
 ⟨some 9, .len 0 (.tmp 8), none⟩,
 ⟨some 10, .bin .lss (.tmp 7) (.tmp 9), none⟩])
 (.cond (.tmp 10)
 .skip
 (.exit 0)))
 (.seq (.block 1
 (.seq (.seq (.ops [⟨some 13, .mv (.tmp 0), none⟩,
 ⟨some 14, .mv (.tmp 4), none⟩,
 ⟨some 15, .indexAddr 2 (.tmp 13) (.tmp 14), none⟩,
 ⟨some 16, .fieldAddr 0 (.tmp 15), none⟩,
 ⟨some 17, .load false 1 false (.tmp 16), none⟩,
 ⟨some 18, .call 0 44 [(.tmp 17)], none⟩])
 (.cond (.tmp 18)
 (.ops [⟨some 19, .mv (.tmp 3), none⟩,
 ⟨some 20, .mv (.tmp 0), none⟩,
 ⟨some 21, .mv (.tmp 4), none⟩,
 ⟨some 22, .indexAddr 2 (.tmp 20) (.tmp 21), none⟩,
 ⟨some 23, .fieldAddr 0 (.tmp 22), none⟩,
 ⟨some 24, .load false 1 false (.tmp 23), none⟩,
 ⟨some 25, .call 0 58 [(.tmp 19), (.tmp 24)], none⟩,
 ⟨some 3, .mv (.tmp 25), none⟩])
 .skip))
 (.seq (.ops [⟨some 26, .mv (.tmp 0), none⟩,
 ⟨some 27, .mv (.tmp 4), none⟩,
 ⟨some 28, .indexAddr 2 (.tmp 26) (.tmp 27), none⟩,
 ⟨some 29, .fieldAddr 1 (.tmp 28), none⟩,
 ⟨some 30, .load false 1 false (.tmp 29), none⟩,
 ⟨some 31, .bin .lss (.tmp 30) (.const (.int .i64 1114111)), none⟩,
 ⟨some 32, .mv (.tmp 31), none⟩,
 ⟨some 33, .mv (.tmp 0), (some (32, true))⟩,
 ⟨some 34, .mv (.tmp 4), (some (32, true))⟩,
 ⟨some 35, .indexAddr 2 (.tmp 33) (.tmp 34), (some (32, true))⟩,
 ⟨some 36, .fieldAddr 1 (.tmp 35), (some (32, true))⟩,
 ⟨some 37, .load false 1 false (.tmp 36), (some (32, true))⟩,
 ⟨some 38, .bin .add (.tmp 37) (.const (.int .i64 1)), (some (32, true))⟩,
 ⟨some 39, .call 0 44 [(.tmp 38)], (some (32, true))⟩,
 ⟨some 40, .pick (.tmp 32) (.tmp 39) (.const (.bool false)), none⟩])
 (.cond (.tmp 40)
 (.ops [⟨some 41, .mv (.tmp 3), none⟩,
 ⟨some 42, .mv (.tmp 0), none⟩,
 ⟨some 43, .mv (.tmp 4), none⟩,
 ⟨some 44, .indexAddr 2 (.tmp 42) (.tmp 43), none⟩,
 ⟨some 45, .fieldAddr 1 (.tmp 44), none⟩,
 ⟨some 46, .load false 1 false (.tmp 45), none⟩,
 ⟨some 47, .bin .add (.tmp 46) (.const (.int .i64 1)), none⟩,
 ⟨some 48, .call 0 58 [(.tmp 41), (.tmp 47)], none⟩,
 ⟨some 3, .mv (.tmp 48), none⟩])
 .skip))))
 (.ops [⟨some 11, .mv (.tmp 4), none⟩,
 ⟨some 12, .bin .add (.tmp 11) (.const (.int .i64 1)), none⟩,
 ⟨some 4, .mv (.tmp 12), none⟩]))))))
 (.seq (.ops [⟨some 49, .mv (.tmp 3), none⟩,
 ⟨some 2, .mv (.tmp 49), none⟩])
 .ret))))⟩
def d_glyphcutter_glyphcutterref01_Make : DFunc := ⟨[.tmp 6],
 (.seq (.ops [⟨some 6, .mv (.const (.rd 0 [] true)), none⟩])
 (.seq (.ops [⟨some 14, .mv (.tmp 0), none⟩,
 ⟨some 15, .call 0 57 [(.tmp 14)], none⟩,
 ⟨some 7, .mv (.tmp 15), none⟩])
 (.seq (.ops [⟨some 16, .mv (.tmp 1), none⟩,
 ⟨some 17, .call 0 57 [(.tmp 16)], none⟩,
 ⟨some 8, .mv (.tmp 17), none⟩])
 (.seq (.seq (.ops [⟨some 9, .mv (.const (.int .i64 0)), none⟩])
 (.block 0
 (.loop
 (.seq (.seq (.ops [⟨some 18, .mv (.tmp 9), none⟩,
 ⟨some 19, .mv (.tmp 8), none⟩,
 ⟨some 20, .len 0 (.tmp 19), none⟩,
 ⟨some 21, .bin .lss (.tmp 18) (.tmp 20), none⟩])
 (.cond (.tmp 21)
 .skip
 (.exit 0)))
 (.seq (.block 1
 (.ops [⟨some 24, .mv (.tmp 7), none⟩,
 ⟨some 25, .mv (.tmp 8), none⟩,
 ⟨some 26, .mv (.tmp 9), none⟩,
 ⟨some 27, .indexAddr 1 (.tmp 25) (.tmp 26), none⟩,
 ⟨some 28, .load false 1 false (.tmp 27), none⟩,
 ⟨some 29, .call 0 58 [(.tmp 24), (.tmp 28)], none⟩,
 ⟨some 7, .mv (.tmp 29), none⟩]))
 (.ops [⟨some 22, .mv (.tmp 9), none⟩,
 ⟨some 23, .bin .add (.tmp 22) (.const (.int .i64 1)), none⟩,
 ⟨some 9, .mv (.tmp 23), none⟩]))))))
 (.seq (.ops [⟨some 10, .mv (.const (.rd 0 [] true)), none⟩])
 (.seq (.seq (.ops [⟨some 11, .mv (.const (.int .i64 0)), none⟩])
 (.block 2
 (.loop
 (.seq (.seq (.ops [⟨some 30, .mv (.tmp 11), none⟩,
 ⟨some 31, .mv (.tmp 7), none⟩,
 ⟨some 32, .len 0 (.tmp 31), none⟩,
 ⟨some 33, .bin .lss (.tmp 30) (.tmp 32), none⟩])
 (.cond (.tmp 33)
 .skip
 (.exit 2)))
 (.seq (.block 3
 (.seq (.ops [⟨some 12, .mv (.const (.int .i64 1114111)), none⟩])
 (.seq (.seq (.ops [⟨some 36, .mv (.tmp 11), none⟩,
 ⟨some 37, .bin .add (.tmp 36) (.const (.int .i64 1)), none⟩,
 ⟨some 38, .mv (.tmp 7), none⟩,
 ⟨some 39, .len 0 (.tmp 38), none⟩,
 ⟨some 40, .bin .lss (.tmp 37) (.tmp 39), none⟩])
 (.cond (.tmp 40)
 (.ops [⟨some 41, .mv (.tmp 7), none⟩,
 ⟨some 42, .mv (.tmp 11), none⟩,
 ⟨some 43, .bin .add (.tmp 42) (.const (.int .i64 1)), none⟩,
 ⟨some 44, .indexAddr 1 (.tmp 41) (.tmp 43), none⟩,
 ⟨some 45, .load false 1 false (.tmp 44), none⟩,
 ⟨some 46, .bin .sub (.tmp 45) (.const (.int .i64 1)), none⟩,
 ⟨some 12, .mv (.tmp 46), none⟩])
 .skip))
 (.seq (.seq (.ops [⟨some 47, .mv (.tmp 7), none⟩,
 ⟨some 48, .mv (.tmp 11), none⟩,
 ⟨some 49, .indexAddr 1 (.tmp 47) (.tmp 48), none⟩,
 ⟨some 50, .load false 1 false (.tmp 49), none⟩,
 ⟨some 51, .bin .lss (.tmp 50) (.const (.int .i64 55296)), none⟩])
 (.cond (.tmp 51)
 (.ops [⟨some 52, .mv (.tmp 12), none⟩,
 ⟨some 53, .mn [(.tmp 52), (.const (.int .i64 55295))], none⟩,
 ⟨some 12, .mv (.tmp 53), none⟩])
 .skip))
 (.seq (.ops [⟨some 13, .mv (.const (.int .i64 0)), none⟩])
 (.seq (.seq (.ops [⟨some 54, .mv (.tmp 0), none⟩,
 ⟨some 55, .mv (.tmp 7), none⟩,
 ⟨some 56, .mv (.tmp 11), none⟩,
 ⟨some 57, .indexAddr 1 (.tmp 55) (.tmp 56), none⟩,
 ⟨some 58, .load false 1 false (.tmp 57), none⟩,
 ⟨some 59, .call 0 31 [(.tmp 54), (.tmp 58)], none⟩])
 (.cond (.tmp 59)
 (.ops [⟨some 60, .mv (.tmp 13), none⟩,
 ⟨some 61, .bin .add (.tmp 60) (.const (.int .i64 1)), none⟩,
 ⟨some 13, .mv (.tmp 61), none⟩])
 .skip))
 (.seq (.seq (.ops [⟨some 62, .mv (.tmp 1), none⟩,
 ⟨some 63, .mv (.tmp 7), none⟩,
 ⟨some 64, .mv (.tmp 11), none⟩,
 ⟨some 65, .indexAddr 1 (.tmp 63) (.tmp 64), none⟩,
 ⟨some 66, .load false 1 false (.tmp 65), none⟩,
 ⟨some 67, .call 0 31 [(.tmp 62), (.tmp 66)], none⟩])
 (.cond (.tmp 67)
 (.ops [⟨some 68, .mv (.tmp 13), none⟩,
 ⟨some 69, .bin .add (.tmp 68) (.const (.int .i64 2)), none⟩,
 ⟨some 13, .mv (.tmp 69), none⟩])
 .skip))
 (.seq (.seq (.ops [⟨some 70, .mv (.tmp 2), none⟩,
 ⟨some 71, .bin .rem (.tmp 70) (.const (.int .i64 2)), none⟩,
 ⟨some 72, .mv (.tmp 2), none⟩,
 ⟨some 73, .bin .quo (.tmp 72) (.const (.int .i64 2)), none⟩,
 ⟨some 74, .bin .rem (.tmp 73) (.const (.int .i64 2)), none⟩,
 ⟨some 75, .mv (.tmp 2), none⟩,
 ⟨some 76, .bin .quo (.tmp 75) (.const (.int .i64 4)), none⟩,
 ⟨some 77, .bin .rem (.tmp 76) (.const (.int .i64 2)), none⟩,
 ⟨some 78, .mv (.tmp 2), none⟩,
 ⟨some 79, .bin .quo (.tmp 78) (.const (.int .i64 8)), none⟩,
 ⟨some 80, .bin .rem (.tmp 79) (.const (.int .i64 2)), none⟩,
 ⟨some 81, .lit 1 4 [(.int .i64 0), (.int .i64 0), (.int .i64 0), (.int .i64 0)] [(0, 1, (.tmp 71)), (1, 1, (.tmp 74)), (2, 1, (.tmp 77)), (3, 1, (.tmp 80))], none⟩,
 ⟨some 82, .mv (.tmp 13), none⟩,
 ⟨some 83, .indexAddr 1 (.tmp 81) (.tmp 82), none⟩,
 ⟨some 84, .load false 1 false (.tmp 83), none⟩,
 ⟨some 85, .bin .eql (.tmp 84) (.const (.int .i64 0)), none⟩])
 (.cond (.tmp 85)
 (.exit 3)
 .skip))
 (.seq (.ops [⟨some 86, .mv (.tmp 10), none⟩,
 ⟨some 87, .len 0 (.tmp 86), none⟩,
 ⟨some 88, .bin .gtr (.tmp 87) (.const (.int .i64 0)), none⟩,
 ⟨some 89, .mv (.tmp 88), none⟩,
 ⟨some 90, .mv (.tmp 10), (some (89, true))⟩,
 ⟨some 91, .mv (.tmp 10), (some (89, true))⟩,
 ⟨some 92, .len 0 (.tmp 91), (some (89, true))⟩,
 ⟨some 93, .bin .sub (.tmp 92) (.const (.int .i64 1)), (some (89, true))⟩,
 ⟨some 94, .indexAddr 2 (.tmp 90) (.tmp 93), (some (89, true))⟩,
 ⟨some 95, .fieldAddr 1 (.tmp 94), (some (89, true))⟩,
 ⟨some 96, .load false 1 false (.tmp 95), (some (89, true))⟩,
 ⟨some 97, .mv (.tmp 7), (some (89, true))⟩,
 ⟨some 98, .mv (.tmp 11), (some (89, true))⟩,
 ⟨some 99, .indexAddr 1 (.tmp 97) (.tmp 98), (some (89, true))⟩,
 ⟨some 100, .load false 1 false (.tmp 99), (some (89, true))⟩,
 ⟨some 101, .bin .sub (.tmp 100) (.const (.int .i64 1)), (some (89, true))⟩,
 ⟨some 102, .bin .eql (.tmp 96) (.tmp 101), (some (89, true))⟩,
 ⟨some 103, .pick (.tmp 89) (.tmp 102) (.const (.bool false)), none⟩])
 (.cond (.tmp 103)
 (.ops [⟨some 104, .mv (.tmp 10), none⟩,
 ⟨some 105, .mv (.tmp 10), none⟩,
 ⟨some 106, .len 0 (.tmp 105), none⟩,
 ⟨some 107, .bin .sub (.tmp 106) (.const (.int .i64 1)), none⟩,
 ⟨some 108, .mv (.tmp 12), none⟩,
 ⟨some 109, .indexAddr 2 (.tmp 104) (.tmp 107), none⟩,
 ⟨some 110, .fieldAddr 1 (.tmp 109), none⟩,
 ⟨none, .store 1 (.tmp 110) (.tmp 108), none⟩])
 (.ops [⟨some 111, .mv (.tmp 10), none⟩,
 ⟨some 112, .mv (.tmp 7), none⟩,
 ⟨some 113, .mv (.tmp 11), none⟩,
 ⟨some 114, .indexAddr 1 (.tmp 112) (.tmp 113), none⟩,
 ⟨some 115, .load false 1 false (.tmp 114), none⟩,
 ⟨some 116, .mv (.tmp 12), none⟩,
 ⟨some 117, .build [(.int .i64 0), (.int .i64 0)] [(0, 1, (.tmp 115)), (1, 1, (.tmp 116))], none⟩,
 ⟨some 118, .lit 2 1 [(.int .i64 0), (.int .i64 0)] [(0, 2, (.tmp 117))], none⟩,
 ⟨some 119, .append 2 (.tmp 111) (.tmp 118), none⟩,
 ⟨some 10, .mv (.tmp 119), none⟩])))))))))))
 (.ops [⟨some 34, .mv (.tmp 11), none⟩,
 ⟨some 35, .bin .add (.tmp 34) (.const (.int .i64 1)), none⟩,
 ⟨some 11, .mv (.tmp 35), none⟩]))))))
 (.seq (.ops [⟨some 120, .mv (.tmp 10), none⟩,
 ⟨some 6, .mv (.tmp 120), none⟩])
 .ret)))))))⟩
def d_glyphcutter_glyphcutterref01_Norm : DFunc := ⟨[.tmp 2],
 (.seq (.ops [⟨some 2, .mv (.const (.rd 0 [] true)), none⟩])
 (.seq (.ops [⟨some 3, .mv (.tmp 0), none⟩,
 ⟨some 4, .call 0 45 [(.tmp 3), (.const (.rd 0 [] true)), (.const (.int .i64 2))], none⟩,
 ⟨some 2, .mv (.tmp 4), none⟩])
 .ret))⟩
def d_glyphcutter_glyphcutterlaw01_place : DFunc := ⟨[.tmp 2],
 (.seq (.ops [⟨some 2, .mv (.const (.int .i64 0)), none⟩])
 (.seq (.ops [⟨some 4, .mv (.tmp 0), none⟩,
 ⟨some 5, .bin .quo (.tmp 4) (.const (.int .u16 8)), none⟩,
 ⟨some 6, .conv .i64 (.tmp 5), none⟩,
 ⟨some 3, .mv (.tmp 6), none⟩])
 (.seq (.seq (.ops [⟨some 7, .mv (.tmp 0), none⟩,
 ⟨some 8, .bin .rem (.tmp 7) (.const (.int .u16 8)), none⟩])
 (.block 0
 (.seq (.ops [⟨some 10, .bin .eql (.tmp 8) (.const (.int .u16 0)), none⟩,
 ⟨some 9, .mv (.tmp 10), none⟩])
 (.cond (.tmp 9)
 (.seq (.ops [⟨some 11, .mv (.tmp 3), none⟩,
 ⟨some 12, .bin .rem (.tmp 11) (.const (.int .i64 2080)), none⟩,
 ⟨some 13, .bin .add (.const (.int .i64 55280)) (.tmp 12), none⟩,
 ⟨some 2, .mv (.tmp 13), none⟩])
 .ret)
 (.seq (.ops [⟨some 15, .bin .eql (.tmp 8) (.const (.int .u16 1)), none⟩,
 ⟨some 14, .mv (.tmp 15), none⟩])
 (.cond (.tmp 14)
 (.seq (.ops [⟨some 16, .mv (.tmp 3), none⟩,
 ⟨some 17, .bin .rem (.tmp 16) (.const (.int .i64 32)), none⟩,
 ⟨some 18, .bin .add (.const (.int .i64 1114080)) (.tmp 17), none⟩,
 ⟨some 2, .mv (.tmp 18), none⟩])
 .ret)
 (.seq (.ops [⟨some 20, .bin .eql (.tmp 8) (.const (.int .u16 2)), none⟩,
 ⟨some 19, .mv (.tmp 20), none⟩])
 (.cond (.tmp 19)
 (.seq (.ops [⟨some 21, .mv (.tmp 3), none⟩,
 ⟨some 22, .bin .rem (.tmp 21) (.const (.int .i64 48)), none⟩,
 ⟨some 23, .bin .add (.const (.int .i64 2032)) (.tmp 22), none⟩,
 ⟨some 2, .mv (.tmp 23), none⟩])
 .ret)
 (.seq (.ops [⟨some 25, .bin .eql (.tmp 8) (.const (.int .u16 3)), none⟩,
 ⟨some 24, .mv (.tmp 25), none⟩])
 (.cond (.tmp 24)
 (.seq (.ops [⟨some 26, .mv (.tmp 3), none⟩,
 ⟨some 27, .bin .rem (.tmp 26) (.const (.int .i64 48)), none⟩,
 ⟨some 28, .bin .add (.const (.int .i64 65520)) (.tmp 27), none⟩,
 ⟨some 2, .mv (.tmp 28), none⟩])
 .ret)
 .skip))))))))))
 (.seq (.ops [⟨some 29, .mv (.tmp 3), none⟩,
 ⟨some 30, .bin .rem (.tmp 29) (.const (.int .i64 200)), none⟩,
 ⟨some 2, .mv (.tmp 30), none⟩])
 .ret))))⟩
def d_glyphcutter_glyphcutterlaw01_Make : DFunc := ⟨[.tmp 2],
 (.seq (.ops [⟨some 2, .mv (.const (.rd 0 [] true)), none⟩])
 (.seq (.ops [⟨some 3, .mv (.const (.rd 0 [] true)), none⟩])
 (.seq (.seq (.ops [⟨some 4, .mv (.const (.int .i64 0)), none⟩])
 (.block 0
 (.loop
 (.seq (.seq (.ops [⟨some 6, .mv (.tmp 4), none⟩,
 ⟨some 7, .bin .add (.tmp 6) (.const (.int .i64 1)), none⟩,
 ⟨some 8, .mv (.tmp 0), none⟩,
 ⟨some 9, .len 0 (.tmp 8), none⟩,
 ⟨some 10, .bin .lss (.tmp 7) (.tmp 9), none⟩,
 ⟨some 11, .mv (.tmp 10), none⟩,
 ⟨some 12, .mv (.tmp 4), (some (11, true))⟩,
 ⟨some 13, .bin .lss (.tmp 12) (.const (.int .i64 60)), (some (11, true))⟩,
 ⟨some 14, .pick (.tmp 11) (.tmp 13) (.const (.bool false)), none⟩])
 (.cond (.tmp 14)
 .skip
 (.exit 0)))
 (.seq (.block 1
 (.seq (.ops [⟨some 17, .mv (.tmp 0), none⟩,
 ⟨some 18, .mv (.tmp 4), none⟩,
 ⟨some 19, .indexAddr 1 (.tmp 17) (.tmp 18), none⟩,
 ⟨some 20, .load false 1 false (.tmp 19), none⟩,
 ⟨some 21, .call 0 34 [(.tmp 20)], none⟩,
 ⟨some 5, .mv (.tmp 21), none⟩])
 (.ops [⟨some 22, .mv (.tmp 3), none⟩,
 ⟨some 23, .mv (.tmp 5), none⟩,
 ⟨some 24, .mv (.tmp 5), none⟩,
 ⟨some 25, .mv (.tmp 0), none⟩,
 ⟨some 26, .mv (.tmp 4), none⟩,
 ⟨some 27, .bin .add (.tmp 26) (.const (.int .i64 1)), none⟩,
 ⟨some 28, .indexAddr 1 (.tmp 25) (.tmp 27), none⟩,
 ⟨some 29, .load false 1 false (.tmp 28), none⟩,
 ⟨some 30, .bin .rem (.tmp 29) (.const (.int .u16 40)), none⟩,
 ⟨some 31, .conv .i64 (.tmp 30), none⟩,
 ⟨some 32, .bin .add (.tmp 24) (.tmp 31), none⟩,
 ⟨some 33, .build [(.int .i64 0), (.int .i64 0)] [(0, 1, (.tmp 23)), (1, 1, (.tmp 32))], none⟩,
 ⟨some 34, .lit 2 1 [(.int .i64 0), (.int .i64 0)] [(0, 2, (.tmp 33))], none⟩,
 ⟨some 35, .append 2 (.tmp 22) (.tmp 34), none⟩,
 ⟨some 3, .mv (.tmp 35), none⟩])))
 (.ops [⟨some 15, .mv (.tmp 4), none⟩,
 ⟨some 16, .bin .add (.tmp 15) (.const (.int .i64 2)), none⟩,
 ⟨some 4, .mv (.tmp 16), none⟩]))))))
 (.seq (.ops [⟨some 36, .mv (.tmp 3), none⟩,
 ⟨some 2, .mv (.tmp 36), none⟩])
 .ret))))⟩
structure C2Lib (Φ : Lib) : Prop where
 f44 : Φ 44 = some (.code d_glyphcutter_glyphcutterref01_scalar)
 f31 : Φ 31 = some (.code d_glyphcutter_glyphcutterref01_Has)
 f32 : Φ 32 = some (.code d_glyphcutter_glyphcutterref01_Alike)
 f58 : Φ 58 = some (.code d_glyphcutter_glyphcutterref01_lay)
 f57 : Φ 57 = some (.code d_glyphcutter_glyphcutterref01_edges)
 f45 : Φ 45 = some (.code d_glyphcutter_glyphcutterref01_Make)
 f33 : Φ 33 = some (.code d_glyphcutter_glyphcutterref01_Norm)
 f34 : Φ 34 = some (.code d_glyphcutter_glyphcutterlaw01_place)
 f22 : Φ 22 = some (.code d_glyphcutter_glyphcutterlaw01_Make)
end Go.Proofs.YtdldfflfbfpngaaGreatDoor
