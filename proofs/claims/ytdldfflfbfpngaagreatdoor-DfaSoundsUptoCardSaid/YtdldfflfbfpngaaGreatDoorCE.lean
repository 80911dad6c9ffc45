/- The abstract machine's code of some functions. Written by program. -/
import Derived.Test.YtdldfflfbfpngaaGreatDoorB2
namespace Go.Proofs.YtdldfflfbfpngaaGreatDoor
open Go
def d_glyphcutter_terms_edges : DFunc := ⟨[.tmp 2],
 (.seq (.ops [⟨some 2, .mv (.const (.rd 0 [] true)), none⟩])
 (.seq (.ops [⟨some 8, .mkmap (some .i64), none⟩,
 ⟨some 3, .mv (.tmp 8), none⟩])
 (.seq (.seq (.ops [⟨some 9, .mv (.tmp 0), none⟩,
 ⟨some 10, .len 0 (.tmp 9), none⟩,
 ⟨some 11, .mv (.const (.int .i64 0)), none⟩])
 (.block 0
 (.loop
 (.seq (.ops [⟨some 12, .bin .lss (.tmp 11) (.tmp 10), none⟩])
 (.seq (.cond (.tmp 12)
 .skip
 (.exit 0))
 (.seq (.block 1
 (.seq (.ops [⟨some 13, .indexAddr 1 (.tmp 9) (.tmp 11), none⟩,
 ⟨some 14, .load false 1 false (.tmp 13), none⟩,
 ⟨some 5, .mv (.tmp 14), none⟩])
 (.seq (.ops [⟨some 15, .mv (.tmp 5), none⟩,
 ⟨some 16, .len 0 (.tmp 15), none⟩,
 ⟨some 17, .mv (.const (.int .i64 0)), none⟩])
 (.block 2
 (.loop
 (.seq (.ops [⟨some 18, .bin .lss (.tmp 17) (.tmp 16), none⟩])
 (.seq (.cond (.tmp 18)
 .skip
 (.exit 2))
 (.seq (.block 3
 (.seq (.ops [⟨some 19, .indexAddr 2 (.tmp 15) (.tmp 17), none⟩,
 ⟨some 20, .load false 2 true (.tmp 19), none⟩,
 ⟨some 7, .alloc [(.int .i64 0), (.int .i64 0)], none⟩,
 ⟨none, .store 2 (.tmp 7) (.tmp 20), none⟩])
 (.seq (.ops [⟨some 21, .mv (.tmp 3), none⟩,
 ⟨some 22, .fieldAddr 0 (.tmp 7), none⟩,
 ⟨some 23, .load false 1 false (.tmp 22), none⟩,
 ⟨some 24, .lookup (some .i64) (.int .i64 0) false (.tmp 21) (.tmp 23), none⟩,
 ⟨some 25, .bin .add (.tmp 24) (.const (.int .i64 1)), none⟩,
 ⟨none, .update (some .i64) (.tmp 21) (.tmp 23) (.tmp 25), none⟩])
 (.ops [⟨some 26, .mv (.tmp 3), none⟩,
 ⟨some 27, .fieldAddr 1 (.tmp 7), none⟩,
 ⟨some 28, .load false 1 false (.tmp 27), none⟩,
 ⟨some 29, .bin .add (.tmp 28) (.const (.int .i64 1)), none⟩,
 ⟨some 30, .lookup (some .i64) (.int .i64 0) false (.tmp 26) (.tmp 29), none⟩,
 ⟨some 31, .bin .add (.tmp 30) (.const (.int .i64 1)), none⟩,
 ⟨none, .update (some .i64) (.tmp 26) (.tmp 29) (.tmp 31), none⟩]))))
 (.ops [⟨some 32, .bin .add (.tmp 17) (.const (.int .i64 1)), none⟩,
 ⟨some 17, .mv (.tmp 32), none⟩])))))))))
 (.ops [⟨some 33, .bin .add (.tmp 11) (.const (.int .i64 1)), none⟩,
 ⟨some 11, .mv (.tmp 33), none⟩])))))))
 (.seq (.ops [⟨some 34, .mv (.tmp 3), none⟩,
 ⟨some 35, .call 0 202 [(.tmp 34)], none⟩,
 ⟨some 36, .call 0 201 [(.tmp 35)], none⟩,
 ⟨some 2, .mv (.tmp 36), none⟩])
 .ret))))⟩
def d_glyphcutter_terms_word : DFunc := ⟨[.tmp 4],
 (.seq (.ops [⟨some 4, .mv (.const (.str [])), none⟩])
 (.seq (.ops [⟨some 9, .mv (.tmp 0), none⟩,
 ⟨some 10, .len 0 (.tmp 9), none⟩,
 ⟨some 11, .mkslice [(.int .u8 0)] (.tmp 10) (.tmp 10), none⟩,
 ⟨some 5, .mv (.tmp 11), none⟩])
 (.seq (.ops [⟨some 6, .mv (.const (.bool false)), none⟩])
 (.seq (.seq (.ops [⟨some 12, .mv (.tmp 0), none⟩,
 ⟨some 13, .len 0 (.tmp 12), none⟩,
 ⟨some 14, .mv (.const (.int .i64 0)), none⟩])
 (.block 0
 (.loop
 (.seq (.ops [⟨some 15, .bin .lss (.tmp 14) (.tmp 13), none⟩])
 (.seq (.cond (.tmp 15)
 .skip
 (.exit 0))
 (.seq (.block 1
 (.seq (.ops [⟨some 16, .mv (.tmp 14), none⟩,
 ⟨some 17, .indexAddr 1 (.tmp 12) (.tmp 14), none⟩,
 ⟨some 18, .load false 1 false (.tmp 17), none⟩,
 ⟨some 7, .mv (.tmp 16), none⟩,
 ⟨some 8, .mv (.tmp 18), none⟩])
 (.seq (.ops [⟨some 19, .mv (.tmp 8), none⟩,
 ⟨some 20, .mv (.tmp 1), none⟩,
 ⟨some 21, .call 0 41 [(.tmp 19), (.tmp 20)], none⟩])
 (.cond (.tmp 21)
 (.ops [⟨some 22, .mv (.tmp 5), none⟩,
 ⟨some 23, .mv (.tmp 7), none⟩,
 ⟨some 24, .indexAddr 1 (.tmp 22) (.tmp 23), none⟩,
 ⟨none, .store 1 (.tmp 24) (.const (.int .u8 1)), none⟩,
 ⟨some 6, .mv (.const (.bool true)), none⟩])
 .skip))))
 (.ops [⟨some 25, .bin .add (.tmp 14) (.const (.int .i64 1)), none⟩,
 ⟨some 14, .mv (.tmp 25), none⟩])))))))
 (.seq (.seq (.ops [⟨some 26, .mv (.tmp 6), none⟩,
 ⟨some 27, .un .not (.tmp 26), none⟩])
 (.cond (.tmp 27)
 (.seq (.ops [⟨some 4, .mv (.const (.str [])), none⟩])
 .ret)
 .skip))
 (.seq (.ops [⟨some 28, .mv (.tmp 5), none⟩,
 ⟨some 29, .strOf (.tmp 28), none⟩,
 ⟨some 4, .mv (.tmp 29), none⟩])
 .ret))))))⟩
def d_glyphcutter_terms_Of : DFunc := ⟨[.tmp 2],
 (.seq (.ops [⟨some 2, .mv (.const (.rd 0 [] true)), none⟩])
 (.seq (.ops [⟨some 14, .mv (.tmp 0), none⟩,
 ⟨some 15, .len 0 (.tmp 14), none⟩,
 ⟨some 16, .mkslice [(.rd 0 [] true)] (.tmp 15) (.tmp 15), none⟩,
 ⟨some 3, .mv (.tmp 16), none⟩])
 (.seq (.seq (.ops [⟨some 17, .mv (.tmp 0), none⟩,
 ⟨some 18, .len 0 (.tmp 17), none⟩,
 ⟨some 19, .mv (.const (.int .i64 0)), none⟩])
 (.block 0
 (.loop
 (.seq (.ops [⟨some 20, .bin .lss (.tmp 19) (.tmp 18), none⟩])
 (.seq (.cond (.tmp 20)
 .skip
 (.exit 0))
 (.seq (.block 1
 (.seq (.ops [⟨some 21, .mv (.tmp 19), none⟩,
 ⟨some 22, .indexAddr 1 (.tmp 17) (.tmp 19), none⟩,
 ⟨some 23, .load false 1 false (.tmp 22), none⟩,
 ⟨some 4, .mv (.tmp 21), none⟩,
 ⟨some 5, .mv (.tmp 23), none⟩])
 (.ops [⟨some 24, .mv (.tmp 3), none⟩,
 ⟨some 25, .mv (.tmp 4), none⟩,
 ⟨some 26, .mv (.tmp 5), none⟩,
 ⟨some 27, .call 0 38 [(.tmp 26)], none⟩,
 ⟨some 28, .indexAddr 1 (.tmp 24) (.tmp 25), none⟩,
 ⟨none, .store 1 (.tmp 28) (.tmp 27), none⟩])))
 (.ops [⟨some 29, .bin .add (.tmp 19) (.const (.int .i64 1)), none⟩,
 ⟨some 19, .mv (.tmp 29), none⟩])))))))
 (.seq (.ops [⟨some 30, .mkmap none, none⟩,
 ⟨some 6, .mv (.tmp 30), none⟩])
 (.seq (.ops [⟨some 7, .mv (.const (.rd 0 [] true)), none⟩])
 (.seq (.ops [⟨some 31, .mv (.tmp 3), none⟩,
 ⟨some 32, .call 0 182 [(.tmp 31)], none⟩,
 ⟨some 8, .mv (.tmp 32), none⟩])
 (.seq (.seq (.ops [⟨some 9, .mv (.const (.int .i64 0)), none⟩])
 (.block 2
 (.loop
 (.seq (.seq (.ops [⟨some 33, .mv (.tmp 9), none⟩,
 ⟨some 34, .bin .add (.tmp 33) (.const (.int .i64 1)), none⟩,
 ⟨some 35, .mv (.tmp 8), none⟩,
 ⟨some 36, .len 0 (.tmp 35), none⟩,
 ⟨some 37, .bin .lss (.tmp 34) (.tmp 36), none⟩])
 (.cond (.tmp 37)
 .skip
 (.exit 2)))
 (.seq (.block 3
 (.seq (.ops [⟨some 40, .mv (.tmp 3), none⟩,
 ⟨some 41, .mv (.tmp 8), none⟩,
 ⟨some 42, .mv (.tmp 9), none⟩,
 ⟨some 43, .indexAddr 1 (.tmp 41) (.tmp 42), none⟩,
 ⟨some 44, .load false 1 false (.tmp 43), none⟩,
 ⟨some 45, .call 0 183 [(.tmp 40), (.tmp 44)], none⟩,
 ⟨some 10, .mv (.tmp 45), none⟩])
 (.seq (.seq (.ops [⟨some 46, .mv (.tmp 10), none⟩,
 ⟨some 47, .bin .eql (.tmp 46) (.const (.str [])), none⟩])
 (.cond (.tmp 47)
 (.exit 3)
 .skip))
 (.seq (.ops [⟨some 49, .mv (.tmp 6), none⟩,
 ⟨some 50, .mv (.tmp 10), none⟩,
 ⟨some 51, .lookup none (.int .i64 0) true (.tmp 49) (.tmp 50), none⟩,
 ⟨some 48, .mv (.tmp 51), none⟩,
 ⟨some 52, .extract (.tmp 48) 0, none⟩,
 ⟨some 53, .extract (.tmp 48) 1, none⟩,
 ⟨some 11, .mv (.tmp 52), none⟩,
 ⟨some 12, .mv (.tmp 53), none⟩])
 (.seq (.seq (.ops [⟨some 54, .mv (.tmp 12), none⟩,
 ⟨some 55, .un .not (.tmp 54), none⟩])
 (.cond (.tmp 55)
 (.seq (.ops [⟨some 56, .mv (.tmp 7), none⟩,
 ⟨some 57, .len 0 (.tmp 56), none⟩,
 ⟨some 11, .mv (.tmp 57), none⟩])
 (.seq (.ops [⟨some 58, .mv (.tmp 6), none⟩,
 ⟨some 59, .mv (.tmp 10), none⟩,
 ⟨some 60, .mv (.tmp 11), none⟩,
 ⟨none, .update none (.tmp 58) (.tmp 59) (.tmp 60), none⟩])
 (.ops [⟨some 61, .mv (.tmp 7), none⟩,
 ⟨some 62, .lit 1 1 [(.rd 0 [] true)] [(0, 1, (.const (.rd 0 [] true)))], none⟩,
 ⟨some 63, .append 1 (.tmp 61) (.tmp 62), none⟩,
 ⟨some 7, .mv (.tmp 63), none⟩])))
 .skip))
 (.ops [⟨some 64, .mv (.tmp 7), none⟩,
 ⟨some 65, .mv (.tmp 11), none⟩,
 ⟨some 66, .mv (.tmp 7), none⟩,
 ⟨some 67, .mv (.tmp 11), none⟩,
 ⟨some 68, .indexAddr 1 (.tmp 66) (.tmp 67), none⟩,
 ⟨some 69, .load false 1 false (.tmp 68), none⟩,
 ⟨some 70, .mv (.tmp 8), none⟩,
 ⟨some 71, .mv (.tmp 9), none⟩,
 ⟨some 72, .indexAddr 1 (.tmp 70) (.tmp 71), none⟩,
 ⟨some 73, .load false 1 false (.tmp 72), none⟩,
 ⟨some 74, .mv (.tmp 8), none⟩,
 ⟨some 75, .mv (.tmp 9), none⟩,
 ⟨some 76, .bin .add (.tmp 75) (.const (.int .i64 1)), none⟩,
 ⟨some 77, .indexAddr 1 (.tmp 74) (.tmp 76), none⟩,
 ⟨some 78, .load false 1 false (.tmp 77), none⟩,
 ⟨some 79, .bin .sub (.tmp 78) (.const (.int .i64 1)), none⟩,
 ⟨some 80, .build [(.int .i64 0), (.int .i64 0)] [(0, 1, (.tmp 73)), (1, 1, (.tmp 79))], none⟩,
 ⟨some 81, .lit 2 1 [(.int .i64 0), (.int .i64 0)] [(0, 2, (.tmp 80))], none⟩,
 ⟨some 82, .append 2 (.tmp 69) (.tmp 81), none⟩,
 ⟨some 83, .indexAddr 1 (.tmp 64) (.tmp 65), none⟩,
 ⟨none, .store 1 (.tmp 83) (.tmp 82), none⟩]))))))
 (.ops [⟨some 38, .mv (.tmp 9), none⟩,
 ⟨some 39, .bin .add (.tmp 38) (.const (.int .i64 1)), none⟩,
 ⟨some 9, .mv (.tmp 39), none⟩]))))))
 (.seq (.seq (.ops [⟨some 84, .mv (.tmp 7), none⟩,
 ⟨some 85, .len 0 (.tmp 84), none⟩,
 ⟨some 86, .mv (.const (.int .i64 0)), none⟩])
 (.block 4
 (.loop
 (.seq (.ops [⟨some 87, .bin .lss (.tmp 86) (.tmp 85), none⟩])
 (.seq (.cond (.tmp 87)
 .skip
 (.exit 4))
 (.seq (.block 5
 (.seq (.ops [⟨some 88, .mv (.tmp 86), none⟩,
 ⟨some 13, .mv (.tmp 88), none⟩])
 (.ops [⟨some 89, .mv (.tmp 7), none⟩,
 ⟨some 90, .mv (.tmp 13), none⟩,
 ⟨some 91, .mv (.tmp 7), none⟩,
 ⟨some 92, .mv (.tmp 13), none⟩,
 ⟨some 93, .indexAddr 1 (.tmp 91) (.tmp 92), none⟩,
 ⟨some 94, .load false 1 false (.tmp 93), none⟩,
 ⟨some 95, .call 0 38 [(.tmp 94)], none⟩,
 ⟨some 96, .indexAddr 1 (.tmp 89) (.tmp 90), none⟩,
 ⟨none, .store 1 (.tmp 96) (.tmp 95), none⟩])))
 (.ops [⟨some 97, .bin .add (.tmp 86) (.const (.int .i64 1)), none⟩,
 ⟨some 86, .mv (.tmp 97), none⟩])))))))
 (.seq (.ops [⟨some 98, .mv (.tmp 7), none⟩,
 ⟨some 2, .mv (.tmp 98), none⟩])
 .ret)))))))))⟩
def d_glyphcutter_terms_Which : DFunc := ⟨[.tmp 4],
 (.seq (.ops [⟨some 3, .box (.tmp 1), none⟩,
 ⟨some 4, .mv (.const (.int .i64 0)), none⟩])
 (.seq (.ops [⟨some 5, .mv (.tmp 0), none⟩,
 ⟨some 6, .mkfn 186 [(.tmp 3)], none⟩,
 ⟨some 7, .call 0 185 [(.tmp 5), (.tmp 6)], none⟩,
 ⟨some 4, .mv (.tmp 7), none⟩])
 .ret))⟩
def d_glyphcutter_terms_Which_1 : DFunc := ⟨[.tmp 3],
 (.seq (.ops [⟨some 3, .mv (.const (.bool false)), none⟩])
 (.seq (.ops [⟨some 4, .mv (.tmp 0), none⟩,
 ⟨some 5, .load false 1 false (.tmp 1), none⟩,
 ⟨some 6, .call 0 41 [(.tmp 4), (.tmp 5)], none⟩,
 ⟨some 3, .mv (.tmp 6), none⟩])
 .ret))⟩
def d_slices_IndexFunc_____glyphcutter_api_Span___glyphcutter_api_Span_ : DFunc := ⟨[.tmp 4],
 (.seq (.ops [⟨some 4, .mv (.const (.int .i64 0)), none⟩])
 (.seq (.seq (.ops [⟨some 6, .mv (.tmp 0), none⟩,
 ⟨some 7, .len 0 (.tmp 6), none⟩,
 ⟨some 8, .mv (.const (.int .i64 0)), none⟩])
 (.block 0
 (.loop
 (.seq (.ops [⟨some 9, .bin .lss (.tmp 8) (.tmp 7), none⟩])
 (.seq (.cond (.tmp 9)
 .skip
 (.exit 0))
 (.seq (.block 1
 (.seq (.ops [⟨some 10, .mv (.tmp 8), none⟩,
 ⟨some 5, .mv (.tmp 10), none⟩])
 (.seq (.ops [⟨some 11, .mv (.tmp 1), none⟩,
 ⟨some 12, .mv (.tmp 0), none⟩,
 ⟨some 13, .mv (.tmp 5), none⟩,
 ⟨some 14, .indexAddr 1 (.tmp 12) (.tmp 13), none⟩,
 ⟨some 15, .load false 1 false (.tmp 14), none⟩,
 ⟨some 16, .callv 0 (.tmp 11) [(.tmp 15)], none⟩])
 (.cond (.tmp 16)
 (.seq (.ops [⟨some 17, .mv (.tmp 5), none⟩,
 ⟨some 4, .mv (.tmp 17), none⟩])
 .ret)
 .skip))))
 (.ops [⟨some 18, .bin .add (.tmp 8) (.const (.int .i64 1)), none⟩,
 ⟨some 8, .mv (.tmp 18), none⟩])))))))
 (.seq (.ops [⟨some 4, .mv (.const (.int .i64 (-1))), none⟩])
 .ret)))⟩
def d_glyphcutter_dfa_text : DFunc := ⟨[.tmp 2],
 (.seq (.ops [⟨some 2, .mv (.const (.str [])), none⟩])
 (.seq (.ops [⟨some 3, .mv (.const (.rd 0 [] true)), none⟩])
 (.seq (.seq (.ops [⟨some 6, .mv (.tmp 0), none⟩,
 ⟨some 7, .len 0 (.tmp 6), none⟩,
 ⟨some 8, .mv (.const (.int .i64 0)), none⟩])
 (.block 0
 (.loop
 (.seq (.ops [⟨some 9, .bin .lss (.tmp 8) (.tmp 7), none⟩])
 (.seq (.cond (.tmp 9)
 .skip
 (.exit 0))
 (.seq (.block 1
 (.seq (.ops [⟨some 10, .indexAddr 1 (.tmp 6) (.tmp 8), none⟩,
 ⟨some 11, .load false 1 false (.tmp 10), none⟩,
 ⟨some 5, .mv (.tmp 11), none⟩])
 (.seq (.ops [⟨some 12, .mv (.tmp 3), none⟩,
 ⟨some 13, .mv (.tmp 5), none⟩,
 ⟨some 14, .call 0 118 [(.tmp 12), (.tmp 13), (.const (.int .i64 36))], none⟩,
 ⟨some 3, .mv (.tmp 14), none⟩])
 (.ops [⟨some 15, .mv (.tmp 3), none⟩,
 ⟨some 16, .lit 1 1 [(.int .u8 0)] [(0, 1, (.const (.int .u8 32)))], none⟩,
 ⟨some 17, .append 1 (.tmp 15) (.tmp 16), none⟩,
 ⟨some 3, .mv (.tmp 17), none⟩]))))
 (.ops [⟨some 18, .bin .add (.tmp 8) (.const (.int .i64 1)), none⟩,
 ⟨some 8, .mv (.tmp 18), none⟩])))))))
 (.seq (.ops [⟨some 19, .mv (.tmp 3), none⟩,
 ⟨some 20, .strOf (.tmp 19), none⟩,
 ⟨some 2, .mv (.tmp 20), none⟩])
 .ret))))⟩
def d___glyphcutter_dfa_maker__place : DFunc := ⟨[.tmp 4],
 (.seq (.ops [⟨some 4, .mv (.const (.int .i64 0)), none⟩])
 (.seq (.seq (.ops [⟨some 9, .mv (.tmp 1), none⟩,
 ⟨some 10, .len 0 (.tmp 9), none⟩,
 ⟨some 11, .bin .eql (.tmp 10) (.const (.int .i64 0)), none⟩])
 (.cond (.tmp 11)
 (.seq (.ops [⟨some 4, .mv (.const (.int .i64 (-1))), none⟩])
 .ret)
 .skip))
 (.seq (.ops [⟨some 12, .mv (.tmp 1), none⟩,
 ⟨some 13, .call 0 184 [(.tmp 12)], none⟩,
 ⟨some 5, .mv (.tmp 13), none⟩])
 (.seq (.ops [⟨some 15, .mv (.tmp 0), none⟩,
 ⟨some 16, .nilck (.tmp 15), none⟩,
 ⟨some 17, .fieldAddr 6 (.tmp 16), none⟩,
 ⟨some 18, .load false 1 false (.tmp 17), none⟩,
 ⟨some 19, .mv (.tmp 5), none⟩,
 ⟨some 20, .lookup none (.int .i64 0) true (.tmp 18) (.tmp 19), none⟩,
 ⟨some 14, .mv (.tmp 20), none⟩,
 ⟨some 21, .extract (.tmp 14) 0, none⟩,
 ⟨some 22, .extract (.tmp 14) 1, none⟩,
 ⟨some 6, .mv (.tmp 21), none⟩,
 ⟨some 7, .mv (.tmp 22), none⟩])
 (.seq (.seq (.ops [⟨some 23, .mv (.tmp 7), none⟩,
 ⟨some 24, .un .not (.tmp 23), none⟩])
 (.cond (.tmp 24)
 (.seq (.ops [⟨some 25, .mv (.tmp 0), none⟩,
 ⟨some 26, .nilck (.tmp 25), none⟩,
 ⟨some 27, .fieldAddr 7 (.tmp 26), none⟩,
 ⟨some 28, .load false 1 false (.tmp 27), none⟩,
 ⟨some 29, .len 0 (.tmp 28), none⟩,
 ⟨some 6, .mv (.tmp 29), none⟩])
 (.seq (.ops [⟨some 30, .mv (.tmp 0), none⟩,
 ⟨some 31, .nilck (.tmp 30), none⟩,
 ⟨some 32, .fieldAddr 6 (.tmp 31), none⟩,
 ⟨some 33, .load false 1 false (.tmp 32), none⟩,
 ⟨some 34, .mv (.tmp 5), none⟩,
 ⟨some 35, .mv (.tmp 6), none⟩,
 ⟨none, .update none (.tmp 33) (.tmp 34) (.tmp 35), none⟩])
 (.seq (.ops [⟨some 36, .mv (.tmp 0), none⟩,
 ⟨some 37, .mv (.tmp 0), none⟩,
 ⟨some 38, .nilck (.tmp 37), none⟩,
 ⟨some 39, .fieldAddr 7 (.tmp 38), none⟩,
 ⟨some 40, .load false 1 false (.tmp 39), none⟩,
 ⟨some 41, .mv (.tmp 1), none⟩,
 ⟨some 42, .lit 1 1 [(.rd 0 [] true)] [(0, 1, (.tmp 41))], none⟩,
 ⟨some 43, .append 1 (.tmp 40) (.tmp 42), none⟩,
 ⟨some 44, .nilck (.tmp 36), none⟩,
 ⟨some 45, .fieldAddr 7 (.tmp 44), none⟩,
 ⟨none, .store 1 (.tmp 45) (.tmp 43), none⟩])
 (.seq (.ops [⟨some 46, .mv (.tmp 0), none⟩,
 ⟨some 47, .mv (.tmp 0), none⟩,
 ⟨some 48, .nilck (.tmp 47), none⟩,
 ⟨some 49, .fieldAddr 0 (.tmp 48), none⟩,
 ⟨some 50, .fieldAddr 2 (.tmp 49), none⟩,
 ⟨some 51, .load false 1 false (.tmp 50), none⟩,
 ⟨some 52, .lit 1 1 [(.int .i64 0)] [(0, 1, (.const (.int .i64 (-1))))], none⟩,
 ⟨some 53, .append 1 (.tmp 51) (.tmp 52), none⟩,
 ⟨some 54, .nilck (.tmp 46), none⟩,
 ⟨some 55, .fieldAddr 0 (.tmp 54), none⟩,
 ⟨some 56, .fieldAddr 2 (.tmp 55), none⟩,
 ⟨none, .store 1 (.tmp 56) (.tmp 53), none⟩])
 (.seq (.ops [⟨some 57, .mv (.tmp 0), none⟩,
 ⟨some 58, .nilck (.tmp 57), none⟩,
 ⟨some 59, .fieldAddr 3 (.tmp 58), none⟩,
 ⟨some 60, .load false 3 true (.tmp 59), none⟩,
 ⟨some 61, .mv (.tmp 1), none⟩,
 ⟨some 62, .call 0 16 [(.tmp 60), (.tmp 61)], none⟩,
 ⟨some 8, .mv (.tmp 62), none⟩])
 (.seq (.ops [⟨some 63, .mv (.tmp 8), none⟩,
 ⟨some 64, .len 0 (.tmp 63), none⟩,
 ⟨some 65, .bin .gtr (.tmp 64) (.const (.int .i64 0)), none⟩])
 (.cond (.tmp 65)
 (.ops [⟨some 66, .mv (.tmp 0), none⟩,
 ⟨some 67, .nilck (.tmp 66), none⟩,
 ⟨some 68, .fieldAddr 0 (.tmp 67), none⟩,
 ⟨some 69, .fieldAddr 2 (.tmp 68), none⟩,
 ⟨some 70, .load false 1 false (.tmp 69), none⟩,
 ⟨some 71, .mv (.tmp 6), none⟩,
 ⟨some 72, .mv (.tmp 8), none⟩,
 ⟨some 73, .indexAddr 1 (.tmp 72) (.const (.int .i64 0)), none⟩,
 ⟨some 74, .load false 1 false (.tmp 73), none⟩,
 ⟨some 75, .indexAddr 1 (.tmp 70) (.tmp 71), none⟩,
 ⟨none, .store 1 (.tmp 75) (.tmp 74), none⟩])
 .skip)))))))
 .skip))
 (.seq (.ops [⟨some 76, .mv (.tmp 6), none⟩,
 ⟨some 4, .mv (.tmp 76), none⟩])
 .ret))))))⟩
def d_glyphcutter_dfa_Of : DFunc := ⟨[.cell 4 3 true, .tmp 5],
 (.seq (.ops [⟨some 2, .box (.tmp 0), none⟩,
 ⟨some 4, .alloc [(.rd 0 [] true), (.rd 0 [] true), (.rd 0 [] true)], none⟩,
 ⟨some 5, .mv (.const (.int .u16 0)), none⟩])
 (.seq (.seq (.ops [⟨some 16, .load false 3 true (.tmp 2), none⟩,
 ⟨some 17, .call 0 24 [(.tmp 16)], none⟩,
 ⟨some 18, .un .not (.tmp 17), none⟩,
 ⟨some 19, .mv (.tmp 18), none⟩,
 ⟨some 20, .mv (.tmp 1), (some (19, false))⟩,
 ⟨some 21, .bin .lss (.tmp 20) (.const (.int .i64 1)), (some (19, false))⟩,
 ⟨some 22, .pick (.tmp 19) (.const (.bool true)) (.tmp 21), none⟩,
 ⟨some 23, .mv (.tmp 22), none⟩,
 ⟨some 24, .mv (.tmp 1), (some (23, false))⟩,
 ⟨some 25, .bin .gtr (.tmp 24) (.const (.int .i64 2000)), (some (23, false))⟩,
 ⟨some 26, .pick (.tmp 23) (.const (.bool true)) (.tmp 25), none⟩])
 (.cond (.tmp 26)
 (.seq (.ops [⟨some 27, .build [(.rd 0 [] true), (.rd 0 [] true), (.rd 0 [] true)] [], none⟩,
 ⟨none, .store 3 (.tmp 4) (.tmp 27), none⟩,
 ⟨some 5, .mv (.const (.int .u16 1)), none⟩])
 .ret)
 .skip))
 (.seq (.ops [⟨some 28, .load false 3 true (.tmp 2), none⟩,
 ⟨some 29, .mkmap none, none⟩,
 ⟨some 30, .build [(.rd 0 [] true), (.rd 0 [] true), (.rd 0 [] true), (.rd 0 [] true), (.rd 0 [] true), (.rd 0 [] true), .nilm, (.rd 0 [] true)] [(3, 3, (.tmp 28)), (6, 1, (.tmp 29))], none⟩,
 ⟨some 31, .box (.tmp 30), none⟩,
 ⟨some 6, .mv (.tmp 31), none⟩])
 (.seq (.ops [⟨some 7, .mv (.const (.rd 0 [] true)), none⟩])
 (.seq (.seq (.ops [⟨some 32, .fieldAddr 0 (.tmp 2), none⟩,
 ⟨some 33, .load false 1 false (.tmp 32), none⟩,
 ⟨some 34, .len 0 (.tmp 33), none⟩,
 ⟨some 35, .mv (.const (.int .i64 0)), none⟩])
 (.block 0
 (.loop
 (.seq (.ops [⟨some 36, .bin .lss (.tmp 35) (.tmp 34), none⟩])
 (.seq (.cond (.tmp 36)
 .skip
 (.exit 0))
 (.seq (.block 1
 (.seq (.ops [⟨some 37, .indexAddr 1 (.tmp 33) (.tmp 35), none⟩,
 ⟨some 38, .load false 1 false (.tmp 37), none⟩,
 ⟨some 9, .mv (.tmp 38), none⟩])
 (.seq (.ops [⟨some 39, .mv (.tmp 9), none⟩,
 ⟨some 40, .len 0 (.tmp 39), none⟩,
 ⟨some 41, .mv (.const (.int .i64 0)), none⟩])
 (.block 2
 (.loop
 (.seq (.ops [⟨some 42, .bin .lss (.tmp 41) (.tmp 40), none⟩])
 (.seq (.cond (.tmp 42)
 .skip
 (.exit 2))
 (.seq (.block 3
 (.seq (.ops [⟨some 43, .indexAddr 2 (.tmp 39) (.tmp 41), none⟩,
 ⟨some 44, .load false 2 true (.tmp 43), none⟩,
 ⟨some 11, .alloc [(.int .i64 0), (.rd 0 [] true)], none⟩,
 ⟨none, .store 2 (.tmp 11) (.tmp 44), none⟩])
 (.ops [⟨some 45, .mv (.tmp 7), none⟩,
 ⟨some 46, .fieldAddr 1 (.tmp 11), none⟩,
 ⟨some 47, .load false 1 false (.tmp 46), none⟩,
 ⟨some 48, .lit 1 1 [(.rd 0 [] true)] [(0, 1, (.tmp 47))], none⟩,
 ⟨some 49, .append 1 (.tmp 45) (.tmp 48), none⟩,
 ⟨some 7, .mv (.tmp 49), none⟩])))
 (.ops [⟨some 50, .bin .add (.tmp 41) (.const (.int .i64 1)), none⟩,
 ⟨some 41, .mv (.tmp 50), none⟩])))))))))
 (.ops [⟨some 51, .bin .add (.tmp 35) (.const (.int .i64 1)), none⟩,
 ⟨some 35, .mv (.tmp 51), none⟩])))))))
 (.seq (.ops [⟨some 52, .mv (.tmp 6), none⟩,
 ⟨some 53, .mv (.tmp 7), none⟩,
 ⟨some 54, .call 0 176 [(.tmp 53)], none⟩,
 ⟨some 55, .nilck (.tmp 52), none⟩,
 ⟨some 56, .fieldAddr 0 (.tmp 55), none⟩,
 ⟨some 57, .fieldAddr 0 (.tmp 56), none⟩,
 ⟨none, .store 1 (.tmp 57) (.tmp 54), none⟩])
 (.seq (.ops [⟨some 58, .mv (.tmp 6), none⟩,
 ⟨some 59, .load false 3 true (.tmp 2), none⟩,
 ⟨some 60, .call 0 12 [(.tmp 59)], none⟩,
 ⟨some 61, .call 0 177 [(.tmp 58), (.tmp 60)], none⟩])
 (.seq (.seq (.ops [⟨some 12, .mv (.const (.int .i64 0)), none⟩])
 (.block 4
 (.loop
 (.seq (.seq (.ops [⟨some 62, .mv (.tmp 12), none⟩,
 ⟨some 63, .mv (.tmp 6), none⟩,
 ⟨some 64, .nilck (.tmp 63), none⟩,
 ⟨some 65, .fieldAddr 7 (.tmp 64), none⟩,
 ⟨some 66, .load false 1 false (.tmp 65), none⟩,
 ⟨some 67, .len 0 (.tmp 66), none⟩,
 ⟨some 68, .bin .lss (.tmp 62) (.tmp 67), none⟩])
 (.cond (.tmp 68)
 .skip
 (.exit 4)))
 (.seq (.block 5
 (.seq (.ops [⟨some 71, .mv (.tmp 6), none⟩,
 ⟨some 72, .nilck (.tmp 71), none⟩,
 ⟨some 73, .fieldAddr 0 (.tmp 72), none⟩,
 ⟨some 74, .fieldAddr 0 (.tmp 73), none⟩,
 ⟨some 75, .load false 1 false (.tmp 74), none⟩,
 ⟨some 76, .len 0 (.tmp 75), none⟩,
 ⟨some 77, .mkslice [(.int .i64 0)] (.tmp 76) (.tmp 76), none⟩,
 ⟨some 13, .mv (.tmp 77), none⟩])
 (.seq (.seq (.ops [⟨some 78, .mv (.tmp 6), none⟩,
 ⟨some 79, .nilck (.tmp 78), none⟩,
 ⟨some 80, .fieldAddr 0 (.tmp 79), none⟩,
 ⟨some 81, .fieldAddr 0 (.tmp 80), none⟩,
 ⟨some 82, .load false 1 false (.tmp 81), none⟩,
 ⟨some 83, .len 0 (.tmp 82), none⟩,
 ⟨some 84, .mv (.const (.int .i64 0)), none⟩])
 (.block 6
 (.loop
 (.seq (.ops [⟨some 85, .bin .lss (.tmp 84) (.tmp 83), none⟩])
 (.seq (.cond (.tmp 85)
 .skip
 (.exit 6))
 (.seq (.block 7
 (.seq (.ops [⟨some 86, .mv (.tmp 84), none⟩,
 ⟨some 87, .indexAddr 1 (.tmp 82) (.tmp 84), none⟩,
 ⟨some 88, .load false 1 false (.tmp 87), none⟩,
 ⟨some 14, .mv (.tmp 86), none⟩,
 ⟨some 15, .mv (.tmp 88), none⟩])
 (.ops [⟨some 89, .mv (.tmp 13), none⟩,
 ⟨some 90, .mv (.tmp 14), none⟩,
 ⟨some 91, .mv (.tmp 6), none⟩,
 ⟨some 92, .load false 3 true (.tmp 2), none⟩,
 ⟨some 93, .mv (.tmp 6), none⟩,
 ⟨some 94, .nilck (.tmp 93), none⟩,
 ⟨some 95, .fieldAddr 7 (.tmp 94), none⟩,
 ⟨some 96, .load false 1 false (.tmp 95), none⟩,
 ⟨some 97, .mv (.tmp 12), none⟩,
 ⟨some 98, .indexAddr 1 (.tmp 96) (.tmp 97), none⟩,
 ⟨some 99, .load false 1 false (.tmp 98), none⟩,
 ⟨some 100, .mv (.tmp 15), none⟩,
 ⟨some 101, .indexAddr 2 (.tmp 100) (.const (.int .i64 0)), none⟩,
 ⟨some 102, .fieldAddr 0 (.tmp 101), none⟩,
 ⟨some 103, .load false 1 false (.tmp 102), none⟩,
 ⟨some 104, .call 0 9 [(.tmp 92), (.tmp 99), (.tmp 103)], none⟩,
 ⟨some 105, .call 0 177 [(.tmp 91), (.tmp 104)], none⟩,
 ⟨some 106, .indexAddr 1 (.tmp 89) (.tmp 90), none⟩,
 ⟨none, .store 1 (.tmp 106) (.tmp 105), none⟩])))
 (.ops [⟨some 107, .bin .add (.tmp 84) (.const (.int .i64 1)), none⟩,
 ⟨some 84, .mv (.tmp 107), none⟩])))))))
 (.seq (.ops [⟨some 108, .mv (.tmp 6), none⟩,
 ⟨some 109, .mv (.tmp 6), none⟩,
 ⟨some 110, .nilck (.tmp 109), none⟩,
 ⟨some 111, .fieldAddr 0 (.tmp 110), none⟩,
 ⟨some 112, .fieldAddr 1 (.tmp 111), none⟩,
 ⟨some 113, .load false 1 false (.tmp 112), none⟩,
 ⟨some 114, .mv (.tmp 13), none⟩,
 ⟨some 115, .lit 1 1 [(.rd 0 [] true)] [(0, 1, (.tmp 114))], none⟩,
 ⟨some 116, .append 1 (.tmp 113) (.tmp 115), none⟩,
 ⟨some 117, .nilck (.tmp 108), none⟩,
 ⟨some 118, .fieldAddr 0 (.tmp 117), none⟩,
 ⟨some 119, .fieldAddr 1 (.tmp 118), none⟩,
 ⟨none, .store 1 (.tmp 119) (.tmp 116), none⟩])
 (.seq (.ops [⟨some 120, .mv (.tmp 6), none⟩,
 ⟨some 121, .nilck (.tmp 120), none⟩,
 ⟨some 122, .fieldAddr 7 (.tmp 121), none⟩,
 ⟨some 123, .load false 1 false (.tmp 122), none⟩,
 ⟨some 124, .len 0 (.tmp 123), none⟩,
 ⟨some 125, .mv (.tmp 1), none⟩,
 ⟨some 126, .bin .gtr (.tmp 124) (.tmp 125), none⟩])
 (.cond (.tmp 126)
 (.seq (.ops [⟨some 127, .build [(.rd 0 [] true), (.rd 0 [] true), (.rd 0 [] true)] [], none⟩,
 ⟨none, .store 3 (.tmp 4) (.tmp 127), none⟩,
 ⟨some 5, .mv (.const (.int .u16 63)), none⟩])
 .ret)
 .skip))))))
 (.ops [⟨some 69, .mv (.tmp 12), none⟩,
 ⟨some 70, .bin .add (.tmp 69) (.const (.int .i64 1)), none⟩,
 ⟨some 12, .mv (.tmp 70), none⟩]))))))
 (.seq (.ops [⟨some 128, .mv (.tmp 6), none⟩,
 ⟨some 129, .nilck (.tmp 128), none⟩,
 ⟨some 130, .fieldAddr 0 (.tmp 129), none⟩,
 ⟨some 131, .load false 3 true (.tmp 130), none⟩,
 ⟨none, .store 3 (.tmp 4) (.tmp 131), none⟩,
 ⟨some 5, .mv (.const (.int .u16 0)), none⟩])
 .ret)))))))))⟩
def d_glyphcutter_dfa_Longest : DFunc := ⟨[.tmp 4, .tmp 5],
 (.seq (.ops [⟨some 2, .box (.tmp 0), none⟩,
 ⟨some 4, .mv (.const (.int .i64 0)), none⟩,
 ⟨some 5, .mv (.const (.int .i64 0)), none⟩])
 (.seq (.ops [⟨some 6, .mv (.const (.int .i64 0)), none⟩,
 ⟨some 7, .mv (.const (.int .i64 (-1))), none⟩])
 (.seq (.seq (.ops [⟨some 12, .load false 3 true (.tmp 2), none⟩,
 ⟨some 13, .call 0 100 [(.tmp 12)], none⟩,
 ⟨some 14, .un .not (.tmp 13), none⟩])
 (.cond (.tmp 14)
 (.seq (.ops [⟨some 15, .mv (.tmp 6), none⟩,
 ⟨some 16, .mv (.tmp 7), none⟩,
 ⟨some 4, .mv (.tmp 15), none⟩,
 ⟨some 5, .mv (.tmp 16), none⟩])
 .ret)
 .skip))
 (.seq (.ops [⟨some 8, .mv (.const (.int .i64 0)), none⟩])
 (.seq .skip
 (.seq (.seq (.ops [⟨some 17, .mv (.tmp 1), none⟩,
 ⟨some 18, .len 0 (.tmp 17), none⟩,
 ⟨some 19, .mv (.const (.int .i64 0)), none⟩])
 (.block 0
 (.loop
 (.seq (.ops [⟨some 20, .bin .lss (.tmp 19) (.tmp 18), none⟩])
 (.seq (.cond (.tmp 20)
 .skip
 (.exit 0))
 (.seq (.block 1
 (.seq (.ops [⟨some 21, .mv (.tmp 19), none⟩,
 ⟨some 22, .indexAddr 1 (.tmp 17) (.tmp 19), none⟩,
 ⟨some 23, .load false 1 false (.tmp 22), none⟩,
 ⟨some 9, .mv (.tmp 21), none⟩,
 ⟨some 10, .mv (.tmp 23), none⟩])
 (.seq (.ops [⟨some 24, .fieldAddr 0 (.tmp 2), none⟩,
 ⟨some 25, .load false 1 false (.tmp 24), none⟩,
 ⟨some 26, .mv (.tmp 10), none⟩,
 ⟨some 27, .call 0 178 [(.tmp 25), (.tmp 26)], none⟩,
 ⟨some 11, .mv (.tmp 27), none⟩])
 (.seq (.seq (.ops [⟨some 28, .mv (.tmp 11), none⟩,
 ⟨some 29, .bin .lss (.tmp 28) (.const (.int .i64 0)), none⟩,
 ⟨some 30, .mv (.tmp 29), none⟩,
 ⟨some 31, .fieldAddr 1 (.tmp 2), (some (30, false))⟩,
 ⟨some 32, .load false 1 false (.tmp 31), (some (30, false))⟩,
 ⟨some 33, .mv (.tmp 8), (some (30, false))⟩,
 ⟨some 34, .indexAddr 1 (.tmp 32) (.tmp 33), (some (30, false))⟩,
 ⟨some 35, .load false 1 false (.tmp 34), (some (30, false))⟩,
 ⟨some 36, .mv (.tmp 11), (some (30, false))⟩,
 ⟨some 37, .indexAddr 1 (.tmp 35) (.tmp 36), (some (30, false))⟩,
 ⟨some 38, .load false 1 false (.tmp 37), (some (30, false))⟩,
 ⟨some 39, .bin .eql (.tmp 38) (.const (.int .i64 (-1))), (some (30, false))⟩,
 ⟨some 40, .pick (.tmp 30) (.const (.bool true)) (.tmp 39), none⟩])
 (.cond (.tmp 40)
 (.exit 0)
 .skip))
 (.seq (.ops [⟨some 41, .fieldAddr 1 (.tmp 2), none⟩,
 ⟨some 42, .load false 1 false (.tmp 41), none⟩,
 ⟨some 43, .mv (.tmp 8), none⟩,
 ⟨some 44, .indexAddr 1 (.tmp 42) (.tmp 43), none⟩,
 ⟨some 45, .load false 1 false (.tmp 44), none⟩,
 ⟨some 46, .mv (.tmp 11), none⟩,
 ⟨some 47, .indexAddr 1 (.tmp 45) (.tmp 46), none⟩,
 ⟨some 48, .load false 1 false (.tmp 47), none⟩,
 ⟨some 8, .mv (.tmp 48), none⟩])
 (.seq (.ops [⟨some 49, .fieldAddr 2 (.tmp 2), none⟩,
 ⟨some 50, .load false 1 false (.tmp 49), none⟩,
 ⟨some 51, .mv (.tmp 8), none⟩,
 ⟨some 52, .indexAddr 1 (.tmp 50) (.tmp 51), none⟩,
 ⟨some 53, .load false 1 false (.tmp 52), none⟩,
 ⟨some 54, .bin .geq (.tmp 53) (.const (.int .i64 0)), none⟩])
 (.cond (.tmp 54)
 (.ops [⟨some 55, .mv (.tmp 9), none⟩,
 ⟨some 56, .bin .add (.tmp 55) (.const (.int .i64 1)), none⟩,
 ⟨some 57, .fieldAddr 2 (.tmp 2), none⟩,
 ⟨some 58, .load false 1 false (.tmp 57), none⟩,
 ⟨some 59, .mv (.tmp 8), none⟩,
 ⟨some 60, .indexAddr 1 (.tmp 58) (.tmp 59), none⟩,
 ⟨some 61, .load false 1 false (.tmp 60), none⟩,
 ⟨some 6, .mv (.tmp 56), none⟩,
 ⟨some 7, .mv (.tmp 61), none⟩])
 .skip)))))))
 (.ops [⟨some 62, .bin .add (.tmp 19) (.const (.int .i64 1)), none⟩,
 ⟨some 19, .mv (.tmp 62), none⟩])))))))
 (.seq (.ops [⟨some 63, .mv (.tmp 6), none⟩,
 ⟨some 64, .mv (.tmp 7), none⟩,
 ⟨some 4, .mv (.tmp 63), none⟩,
 ⟨some 5, .mv (.tmp 64), none⟩])
 .ret)))))))⟩
def d_glyphcutter_glyphcutterlaw11_known : DFunc := ⟨[.tmp 0],
 (.seq (.ops [⟨some 0, .mv (.const (.bool false)), none⟩])
 (.seq (.ops [⟨some 8, .build [(.int .i64 0), (.int .i64 0)] [(0, 1, (.const (.int .i64 97))), (1, 1, (.const (.int .i64 97)))], none⟩,
 ⟨some 9, .lit 2 1 [(.int .i64 0), (.int .i64 0)] [(0, 2, (.tmp 8))], none⟩,
 ⟨some 10, .build [(.int .i64 0), (.rd 0 [] true)] [(0, 1, (.const (.int .i64 1))), (1, 1, (.tmp 9))], none⟩,
 ⟨some 11, .lit 2 1 [(.int .i64 0), (.rd 0 [] true)] [(0, 2, (.tmp 10))], none⟩,
 ⟨some 12, .build [(.int .i64 0), (.int .i64 0)] [(0, 1, (.const (.int .i64 98))), (1, 1, (.const (.int .i64 98)))], none⟩,
 ⟨some 13, .lit 2 1 [(.int .i64 0), (.int .i64 0)] [(0, 2, (.tmp 12))], none⟩,
 ⟨some 14, .build [(.int .i64 0), (.rd 0 [] true)] [(0, 1, (.const (.int .i64 2))), (1, 1, (.tmp 13))], none⟩,
 ⟨some 15, .lit 2 1 [(.int .i64 0), (.rd 0 [] true)] [(0, 2, (.tmp 14))], none⟩,
 ⟨some 16, .lit 1 3 [(.rd 0 [] true), (.rd 0 [] true), (.rd 0 [] true)] [(0, 1, (.tmp 11)), (1, 1, (.tmp 15)), (2, 1, (.const (.rd 0 [] true)))], none⟩,
 ⟨some 17, .lit 1 3 [(.rd 0 [] true), (.rd 0 [] true), (.rd 0 [] true)] [(0, 1, (.const (.rd 0 [] true))), (1, 1, (.const (.rd 0 [] true))), (2, 1, (.const (.rd 0 [] true)))], none⟩,
 ⟨some 18, .lit 1 3 [(.int .i64 0), (.int .i64 0), (.int .i64 0)] [(0, 1, (.const (.int .i64 (-1)))), (1, 1, (.const (.int .i64 0))), (2, 1, (.const (.int .i64 0)))], none⟩,
 ⟨some 19, .build [(.rd 0 [] true), (.rd 0 [] true), (.rd 0 [] true)] [(0, 1, (.tmp 16)), (1, 1, (.tmp 17)), (2, 1, (.tmp 18))], none⟩,
 ⟨some 1, .alloc [(.rd 0 [] true), (.rd 0 [] true), (.rd 0 [] true)], none⟩,
 ⟨none, .store 3 (.tmp 1) (.tmp 19), none⟩])
 (.seq (.ops [⟨some 21, .load false 3 true (.tmp 1), none⟩,
 ⟨some 22, .call 0 169 [(.tmp 21), (.const (.int .i64 5))], none⟩,
 ⟨some 20, .mv (.tmp 22), none⟩,
 ⟨some 23, .extract (.tmp 20) 0, none⟩,
 ⟨some 24, .extract (.tmp 20) 1, none⟩,
 ⟨some 2, .alloc [(.rd 0 [] true), (.rd 0 [] true), (.rd 0 [] true)], none⟩,
 ⟨none, .store 3 (.tmp 2) (.tmp 23), none⟩,
 ⟨some 3, .mv (.tmp 24), none⟩])
 (.seq (.ops [⟨some 26, .load false 3 true (.tmp 1), none⟩,
 ⟨some 27, .call 0 169 [(.tmp 26), (.const (.int .i64 2))], none⟩,
 ⟨some 25, .mv (.tmp 27), none⟩,
 ⟨some 28, .extract (.tmp 25) 0, none⟩,
 ⟨some 29, .extract (.tmp 25) 1, none⟩,
 ⟨some 4, .alloc [(.rd 0 [] true), (.rd 0 [] true), (.rd 0 [] true)], none⟩,
 ⟨none, .store 3 (.tmp 4) (.tmp 28), none⟩,
 ⟨some 5, .mv (.tmp 29), none⟩])
 (.seq (.ops [⟨some 31, .load false 3 true (.tmp 2), none⟩,
 ⟨some 32, .lit 1 3 [(.int .i64 0), (.int .i64 0), (.int .i64 0)] [(0, 1, (.const (.int .i64 97))), (1, 1, (.const (.int .i64 98))), (2, 1, (.const (.int .i64 98)))], none⟩,
 ⟨some 33, .call 0 171 [(.tmp 31), (.tmp 32)], none⟩,
 ⟨some 30, .mv (.tmp 33), none⟩,
 ⟨some 34, .extract (.tmp 30) 0, none⟩,
 ⟨some 35, .extract (.tmp 30) 1, none⟩,
 ⟨some 6, .mv (.tmp 34), none⟩,
 ⟨some 7, .mv (.tmp 35), none⟩])
 (.seq (.ops [⟨some 36, .mv (.tmp 3), none⟩,
 ⟨some 37, .bin .eql (.tmp 36) (.const (.int .u16 0)), none⟩,
 ⟨some 38, .mv (.tmp 37), none⟩,
 ⟨some 39, .mv (.tmp 5), (some (38, true))⟩,
 ⟨some 40, .bin .eql (.tmp 39) (.const (.int .u16 63)), (some (38, true))⟩,
 ⟨some 41, .pick (.tmp 38) (.tmp 40) (.const (.bool false)), none⟩,
 ⟨some 42, .mv (.tmp 41), none⟩,
 ⟨some 43, .load false 3 true (.tmp 2), (some (42, true))⟩,
 ⟨some 44, .call 0 100 [(.tmp 43)], (some (42, true))⟩,
 ⟨some 45, .pick (.tmp 42) (.tmp 44) (.const (.bool false)), none⟩,
 ⟨some 46, .mv (.tmp 45), none⟩,
 ⟨some 47, .fieldAddr 2 (.tmp 2), (some (46, true))⟩,
 ⟨some 48, .load false 1 false (.tmp 47), (some (46, true))⟩,
 ⟨some 49, .len 0 (.tmp 48), (some (46, true))⟩,
 ⟨some 50, .bin .eql (.tmp 49) (.const (.int .i64 3)), (some (46, true))⟩,
 ⟨some 51, .pick (.tmp 46) (.tmp 50) (.const (.bool false)), none⟩,
 ⟨some 52, .mv (.tmp 51), none⟩,
 ⟨some 53, .fieldAddr 0 (.tmp 2), (some (52, true))⟩,
 ⟨some 54, .load false 1 false (.tmp 53), (some (52, true))⟩,
 ⟨some 55, .len 0 (.tmp 54), (some (52, true))⟩,
 ⟨some 56, .bin .eql (.tmp 55) (.const (.int .i64 2)), (some (52, true))⟩,
 ⟨some 57, .pick (.tmp 52) (.tmp 56) (.const (.bool false)), none⟩,
 ⟨some 58, .mv (.tmp 57), none⟩,
 ⟨some 59, .mv (.tmp 6), (some (58, true))⟩,
 ⟨some 60, .bin .eql (.tmp 59) (.const (.int .i64 2)), (some (58, true))⟩,
 ⟨some 61, .pick (.tmp 58) (.tmp 60) (.const (.bool false)), none⟩,
 ⟨some 62, .mv (.tmp 61), none⟩,
 ⟨some 63, .mv (.tmp 7), (some (62, true))⟩,
 ⟨some 64, .bin .eql (.tmp 63) (.const (.int .i64 0)), (some (62, true))⟩,
 ⟨some 65, .pick (.tmp 62) (.tmp 64) (.const (.bool false)), none⟩,
 ⟨some 66, .mv (.tmp 65), none⟩,
 ⟨some 67, .build [(.rd 0 [] true), (.rd 0 [] true), (.rd 0 [] true)] [], (some (66, true))⟩,
 ⟨some 68, .call 0 100 [(.tmp 67)], (some (66, true))⟩,
 ⟨some 69, .un .not (.tmp 68), (some (66, true))⟩,
 ⟨some 70, .pick (.tmp 66) (.tmp 69) (.const (.bool false)), none⟩,
 ⟨some 0, .mv (.tmp 70), none⟩])
 .ret))))))⟩
def d_glyphcutter_glyphcutterlaw11_heavy : DFunc := ⟨[.tmp 2],
 (.seq (.ops [⟨some 1, .box (.tmp 0), none⟩,
 ⟨some 2, .mv (.const (.bool false)), none⟩])
 (.seq (.ops [⟨some 6, .fieldAddr 2 (.tmp 1), none⟩,
 ⟨some 7, .load false 1 false (.tmp 6), none⟩,
 ⟨some 8, .len 0 (.tmp 7), none⟩,
 ⟨some 3, .mv (.tmp 8), none⟩])
 (.seq (.seq (.ops [⟨some 4, .mv (.const (.int .i64 0)), none⟩])
 (.block 0
 (.loop
 (.seq (.seq (.ops [⟨some 9, .mv (.tmp 4), none⟩,
 ⟨some 10, .fieldAddr 0 (.tmp 1), none⟩,
 ⟨some 11, .load false 1 false (.tmp 10), none⟩,
 ⟨some 12, .len 0 (.tmp 11), none⟩,
 ⟨some 13, .bin .lss (.tmp 9) (.tmp 12), none⟩])
 (.cond (.tmp 13)
 .skip
 (.exit 0)))
 (.seq (.block 1
 (.ops [⟨some 16, .mv (.tmp 3), none⟩,
 ⟨some 17, .fieldAddr 0 (.tmp 1), none⟩,
 ⟨some 18, .load false 1 false (.tmp 17), none⟩,
 ⟨some 19, .mv (.tmp 4), none⟩,
 ⟨some 20, .indexAddr 1 (.tmp 18) (.tmp 19), none⟩,
 ⟨some 21, .load false 1 false (.tmp 20), none⟩,
 ⟨some 22, .len 0 (.tmp 21), none⟩,
 ⟨some 23, .bin .add (.const (.int .i64 1)) (.tmp 22), none⟩,
 ⟨some 24, .bin .add (.tmp 16) (.tmp 23), none⟩,
 ⟨some 3, .mv (.tmp 24), none⟩]))
 (.ops [⟨some 14, .mv (.tmp 4), none⟩,
 ⟨some 15, .bin .add (.tmp 14) (.const (.int .i64 1)), none⟩,
 ⟨some 4, .mv (.tmp 15), none⟩]))))))
 (.seq (.seq (.ops [⟨some 5, .mv (.const (.int .i64 0)), none⟩])
 (.block 2
 (.loop
 (.seq (.seq (.ops [⟨some 25, .mv (.tmp 5), none⟩,
 ⟨some 26, .fieldAddr 1 (.tmp 1), none⟩,
 ⟨some 27, .load false 1 false (.tmp 26), none⟩,
 ⟨some 28, .len 0 (.tmp 27), none⟩,
 ⟨some 29, .bin .lss (.tmp 25) (.tmp 28), none⟩])
 (.cond (.tmp 29)
 .skip
 (.exit 2)))
 (.seq (.block 3
 (.ops [⟨some 32, .mv (.tmp 3), none⟩,
 ⟨some 33, .fieldAddr 1 (.tmp 1), none⟩,
 ⟨some 34, .load false 1 false (.tmp 33), none⟩,
 ⟨some 35, .mv (.tmp 5), none⟩,
 ⟨some 36, .indexAddr 1 (.tmp 34) (.tmp 35), none⟩,
 ⟨some 37, .load false 1 false (.tmp 36), none⟩,
 ⟨some 38, .len 0 (.tmp 37), none⟩,
 ⟨some 39, .bin .add (.const (.int .i64 1)) (.tmp 38), none⟩,
 ⟨some 40, .bin .add (.tmp 32) (.tmp 39), none⟩,
 ⟨some 3, .mv (.tmp 40), none⟩]))
 (.ops [⟨some 30, .mv (.tmp 5), none⟩,
 ⟨some 31, .bin .add (.tmp 30) (.const (.int .i64 1)), none⟩,
 ⟨some 5, .mv (.tmp 31), none⟩]))))))
 (.seq (.ops [⟨some 41, .mv (.tmp 3), none⟩,
 ⟨some 42, .bin .gtr (.tmp 41) (.const (.int .i64 150)), none⟩,
 ⟨some 2, .mv (.tmp 42), none⟩])
 .ret)))))⟩
def d_glyphcutter_glyphcutterlaw11_DfaSounds : DFunc := ⟨[.tmp 14],
 (.seq (.ops [⟨some 7, .box (.tmp 0), none⟩,
 ⟨some 14, .mv (.const (.bool false)), none⟩])
 (.seq (.seq (.ops [⟨some 26, .load false 3 true (.tmp 7), none⟩,
 ⟨some 27, .call 0 170 [(.tmp 26)], none⟩,
 ⟨some 28, .mv (.tmp 27), none⟩,
 ⟨some 29, .mv (.tmp 5), (some (28, false))⟩,
 ⟨some 30, .len 0 (.tmp 29), (some (28, false))⟩,
 ⟨some 31, .bin .gtr (.tmp 30) (.const (.int .i64 30)), (some (28, false))⟩,
 ⟨some 32, .pick (.tmp 28) (.const (.bool true)) (.tmp 31), none⟩,
 ⟨some 33, .mv (.tmp 32), none⟩,
 ⟨some 34, .mv (.tmp 6), (some (33, false))⟩,
 ⟨some 35, .len 0 (.tmp 34), (some (33, false))⟩,
 ⟨some 36, .bin .gtr (.tmp 35) (.const (.int .i64 30)), (some (33, false))⟩,
 ⟨some 37, .pick (.tmp 33) (.const (.bool true)) (.tmp 36), none⟩,
 ⟨some 38, .mv (.tmp 37), none⟩,
 ⟨some 39, .call 0 168 [], (some (38, false))⟩,
 ⟨some 40, .un .not (.tmp 39), (some (38, false))⟩,
 ⟨some 41, .pick (.tmp 38) (.const (.bool true)) (.tmp 40), none⟩])
 (.cond (.tmp 41)
 (.seq (.ops [⟨some 42, .call 0 168 [], none⟩,
 ⟨some 14, .mv (.tmp 42), none⟩])
 .ret)
 .skip))
 (.seq (.ops [⟨some 43, .mv (.tmp 1), none⟩,
 ⟨some 44, .mv (.tmp 2), none⟩,
 ⟨some 45, .mv (.tmp 3), none⟩,
 ⟨some 46, .mv (.tmp 4), none⟩,
 ⟨some 47, .call 0 156 [(.tmp 43), (.tmp 44), (.tmp 45), (.tmp 46)], none⟩,
 ⟨some 15, .alloc [(.rd 0 [] true), (.rd 0 [] true), (.rd 0 [] true)], none⟩,
 ⟨none, .store 3 (.tmp 15) (.tmp 47), none⟩])
 (.seq (.ops [⟨some 16, .mv (.const (.rd 0 [] true)), none⟩])
 (.seq (.seq (.ops [⟨some 17, .mv (.const (.int .i64 0)), none⟩])
 (.block 0
 (.loop
 (.seq (.seq (.ops [⟨some 48, .mv (.tmp 17), none⟩,
 ⟨some 49, .mv (.tmp 6), none⟩,
 ⟨some 50, .len 0 (.tmp 49), none⟩,
 ⟨some 51, .bin .lss (.tmp 48) (.tmp 50), none⟩])
 (.cond (.tmp 51)
 .skip
 (.exit 0)))
 (.seq (.block 1
 (.ops [⟨some 54, .mv (.tmp 16), none⟩,
 ⟨some 55, .mv (.tmp 6), none⟩,
 ⟨some 56, .mv (.tmp 17), none⟩,
 ⟨some 57, .indexAddr 1 (.tmp 55) (.tmp 56), none⟩,
 ⟨some 58, .load false 1 false (.tmp 57), none⟩,
 ⟨some 59, .conv .i64 (.tmp 58), none⟩,
 ⟨some 60, .bin .rem (.tmp 59) (.const (.int .i64 230)), none⟩,
 ⟨some 61, .lit 1 1 [(.int .i64 0)] [(0, 1, (.tmp 60))], none⟩,
 ⟨some 62, .append 1 (.tmp 54) (.tmp 61), none⟩,
 ⟨some 16, .mv (.tmp 62), none⟩]))
 (.ops [⟨some 52, .mv (.tmp 17), none⟩,
 ⟨some 53, .bin .add (.tmp 52) (.const (.int .i64 1)), none⟩,
 ⟨some 17, .mv (.tmp 53), none⟩]))))))
 (.seq (.ops [⟨some 64, .load false 3 true (.tmp 7), none⟩,
 ⟨some 65, .mv (.tmp 5), none⟩,
 ⟨some 66, .call 0 171 [(.tmp 64), (.tmp 65)], none⟩,
 ⟨some 63, .mv (.tmp 66), none⟩,
 ⟨some 67, .extract (.tmp 63) 0, none⟩,
 ⟨some 68, .extract (.tmp 63) 1, none⟩,
 ⟨some 18, .mv (.tmp 67), none⟩,
 ⟨some 19, .mv (.tmp 68), none⟩])
 (.seq (.ops [⟨some 70, .load false 3 true (.tmp 7), none⟩,
 ⟨some 71, .mv (.tmp 5), none⟩,
 ⟨some 72, .call 0 158 [(.tmp 70), (.tmp 71)], none⟩,
 ⟨some 69, .mv (.tmp 72), none⟩,
 ⟨some 73, .extract (.tmp 69) 0, none⟩,
 ⟨some 74, .extract (.tmp 69) 1, none⟩,
 ⟨some 20, .mv (.tmp 73), none⟩,
 ⟨some 21, .mv (.tmp 74), none⟩])
 (.seq (.ops [⟨some 76, .load false 3 true (.tmp 15), none⟩,
 ⟨some 77, .mv (.tmp 16), none⟩,
 ⟨some 78, .call 0 171 [(.tmp 76), (.tmp 77)], none⟩,
 ⟨some 75, .mv (.tmp 78), none⟩,
 ⟨some 79, .extract (.tmp 75) 0, none⟩,
 ⟨some 80, .extract (.tmp 75) 1, none⟩,
 ⟨some 22, .mv (.tmp 79), none⟩,
 ⟨some 23, .mv (.tmp 80), none⟩])
 (.seq (.ops [⟨some 82, .load false 3 true (.tmp 15), none⟩,
 ⟨some 83, .mv (.tmp 16), none⟩,
 ⟨some 84, .call 0 158 [(.tmp 82), (.tmp 83)], none⟩,
 ⟨some 81, .mv (.tmp 84), none⟩,
 ⟨some 85, .extract (.tmp 81) 0, none⟩,
 ⟨some 86, .extract (.tmp 81) 1, none⟩,
 ⟨some 24, .mv (.tmp 85), none⟩,
 ⟨some 25, .mv (.tmp 86), none⟩])
 (.seq (.ops [⟨some 87, .load false 3 true (.tmp 7), none⟩,
 ⟨some 88, .call 1 100 [(.tmp 87)], none⟩,
 ⟨some 89, .load false 3 true (.tmp 7), none⟩,
 ⟨some 90, .call 0 157 [(.tmp 89)], none⟩,
 ⟨some 91, .eqB false (.tmp 88) (.tmp 90), none⟩,
 ⟨some 92, .mv (.tmp 91), none⟩,
 ⟨some 93, .load false 3 true (.tmp 15), (some (92, true))⟩,
 ⟨some 94, .call 0 100 [(.tmp 93)], (some (92, true))⟩,
 ⟨some 95, .pick (.tmp 92) (.tmp 94) (.const (.bool false)), none⟩,
 ⟨some 96, .mv (.tmp 95), none⟩,
 ⟨some 97, .mv (.tmp 18), (some (96, true))⟩,
 ⟨some 98, .mv (.tmp 20), (some (96, true))⟩,
 ⟨some 99, .bin .eql (.tmp 97) (.tmp 98), (some (96, true))⟩,
 ⟨some 100, .pick (.tmp 96) (.tmp 99) (.const (.bool false)), none⟩,
 ⟨some 101, .mv (.tmp 100), none⟩,
 ⟨some 102, .mv (.tmp 19), (some (101, true))⟩,
 ⟨some 103, .mv (.tmp 21), (some (101, true))⟩,
 ⟨some 104, .bin .eql (.tmp 102) (.tmp 103), (some (101, true))⟩,
 ⟨some 105, .pick (.tmp 101) (.tmp 104) (.const (.bool false)), none⟩,
 ⟨some 106, .mv (.tmp 105), none⟩,
 ⟨some 107, .mv (.tmp 22), (some (106, true))⟩,
 ⟨some 108, .mv (.tmp 24), (some (106, true))⟩,
 ⟨some 109, .bin .eql (.tmp 107) (.tmp 108), (some (106, true))⟩,
 ⟨some 110, .pick (.tmp 106) (.tmp 109) (.const (.bool false)), none⟩,
 ⟨some 111, .mv (.tmp 110), none⟩,
 ⟨some 112, .mv (.tmp 23), (some (111, true))⟩,
 ⟨some 113, .mv (.tmp 25), (some (111, true))⟩,
 ⟨some 114, .bin .eql (.tmp 112) (.tmp 113), (some (111, true))⟩,
 ⟨some 115, .pick (.tmp 111) (.tmp 114) (.const (.bool false)), none⟩,
 ⟨some 14, .mv (.tmp 115), none⟩])
 .ret))))))))))⟩
def d_maps_Keys_map_int_int_int_int_ : DFunc := ⟨[.tmp 2],
 (.seq (.ops [⟨some 1, .box (.tmp 0), none⟩,
 ⟨some 2, .mv (.const .nilf), none⟩])
 (.seq (.ops [⟨some 3, .mkfn 212 [(.tmp 1)], none⟩,
 ⟨some 2, .mv (.tmp 3), none⟩])
 .ret))⟩
structure LibC5 (Φ : Lib) : Prop where
 f182 : Φ 182 = some (.code d_glyphcutter_terms_edges)
 f183 : Φ 183 = some (.code d_glyphcutter_terms_word)
 f176 : Φ 176 = some (.code d_glyphcutter_terms_Of)
 f178 : Φ 178 = some (.code d_glyphcutter_terms_Which)
 f186 : Φ 186 = some (.code d_glyphcutter_terms_Which_1)
 f185 : Φ 185 = some (.code d_slices_IndexFunc_____glyphcutter_api_Span___glyphcutter_api_Span_)
 f184 : Φ 184 = some (.code d_glyphcutter_dfa_text)
 f177 : Φ 177 = some (.code d___glyphcutter_dfa_maker__place)
 f169 : Φ 169 = some (.code d_glyphcutter_dfa_Of)
 f171 : Φ 171 = some (.code d_glyphcutter_dfa_Longest)
 f168 : Φ 168 = some (.code d_glyphcutter_glyphcutterlaw11_known)
 f170 : Φ 170 = some (.code d_glyphcutter_glyphcutterlaw11_heavy)
 f164 : Φ 164 = some (.code d_glyphcutter_glyphcutterlaw11_DfaSounds)
 f202 : Φ 202 = some (.code d_maps_Keys_map_int_int_int_int_)
end Go.Proofs.YtdldfflfbfpngaaGreatDoor
