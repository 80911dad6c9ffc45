/- The abstract machine's code of some functions. -/
import Derived.Test.YtlnobeojgifojaaGreatDoorB2
namespace Go.Proofs.YtlnobeojgifojaaGreatDoor
section
open Go
def jG:bN:=⟨[.tmp 6],
 (.seq (.ops [oM 6 (.mv (.const (.rd 0 [] true)))])
 (.seq (.ops [mM 7 0,
 mM 8 1,
 mM 9 2,
 oM 10 (.call 0 124 [(tM 7),(tM 8),(tM 9)]),
 mM 6 10])
 .ret))⟩
def fA:bN:=⟨[.tmp 6],
 (.seq (.ops [oM 6 (.mv (.const (.rd 0 [] true)))])
 (.seq (.ops [mM 8 1,
 oM 9 (.conv .u64 (tM 8)),
 mM 7 9])
 (.seq (.seq (.ops [mM 10 1,
 oM 11 (.bin .lss (tM 10) (kM (0)))])
 (.cond (tM 11)
 (.seq (.ops [mM 12 0,
 oM 13 (.lit 1 1 [(.int .u8 0)] [(0,1,(.const (.int .u8 45)))]),
 oM 14 (.append 1 (tM 12) (tM 13)),
 mM 0 14])
 (.ops [mM 15 7,
 oM 16 (.un .neg (tM 15)),
 mM 7 16]))
 .skip))
 (.seq (.ops [mM 17 0,
 mM 18 7,
 mM 19 2,
 oM 20 (.call 0 127 [(tM 17),(tM 18),(tM 19)]),
 mM 6 20])
 .ret))))⟩
def ff:bN:=⟨[.tmp 6],
 (.seq (.ops [oM 6 (.mv (.const (.rd 0 [] true)))])
 (.seq (.seq (.ops [mM 9 2,
 oM 10 (.bin .eql (tM 9) (kM (10)))])
 (.cond (tM 10)
 (.seq (.seq (.ops [mM 11 1,
 oM 12 (.bin .lss (tM 11) (.const (.int .u64 100)))])
 (.cond (tM 12)
 (.seq (.ops [mM 13 0,
 mM 14 1,
 oM 15 (.conv .i64 (tM 14)),
 oM 16 (.call 0 137 [(tM 15)]),
 oM 17 (.append 1 (tM 13) (tM 16)),
 mM 6 17])
 .ret)
 .skip))
 (.seq (.ops [oM 7 (.alloc [(.int .u8 0),(.int .u8 0),(.int .u8 0),(.int .u8 0),(.int .u8 0),(.int .u8 0),(.int .u8 0),(.int .u8 0),(.int .u8 0),(.int .u8 0),(.int .u8 0),(.int .u8 0),(.int .u8 0),(.int .u8 0),(.int .u8 0),(.int .u8 0),(.int .u8 0),(.int .u8 0),(.int .u8 0),(.int .u8 0),(.int .u8 0),(.int .u8 0),(.int .u8 0),(.int .u8 0)])])
 (.seq (.ops [mM 18 1,
 oM 19 (.call 0 138 [(tM 18)]),
 mM 8 19])
 (.seq (.ops [mM 20 8,
 oM 21 (.sliceA 24 1 (tM 7) none (some (tM 20))),
 mM 22 1,
 oM 23 (.call 0 139 [(tM 21),(tM 22)])])
 (.seq (.ops [mM 24 0,
 mM 25 8,
 oM 26 (.sliceA 24 1 (tM 7) none (some (tM 25))),
 oM 27 (.append 1 (tM 24) (tM 26)),
 mM 6 27])
 .ret)))))
 .skip))
 (.seq (.ops [mM 29 0,
 mM 30 1,
 mM 31 2,
 oM 32 (.call 0 140 [(tM 29),(tM 30),(tM 31),(.const (.bool false)),(.const (.bool true))]),
 mM 28 32,
 oM 33 (.extract (tM 28) 0),
 oM 34 (.extract (tM 28) 1),
 mM 0 33])
 (.seq (.ops [mM 35 0,
 mM 6 35])
 .ret))))⟩
def fe:bN:=⟨[.tmp 10,.tmp 11],
 (.seq (.ops [oM 10 (.mv (.const (.rd 0 [] true))),
 oM 11 (.mv (.const (.str [])))])
 (.seq (.seq (.ops [mM 19 2,
 oM 20 (.bin .lss (tM 19) (kM (2))),
 mM 21 20,
 gM 22 21 false (.mv (tM 2)),
 gM 23 21 false (.bin .eql (tM 22) (kM (10))),
 oM 24 (.pick (tM 21) (.const (.bool true)) (tM 23)),
 mM 25 24,
 gM 26 25 false (.mv (tM 2)),
 gM 27 25 false (.bin .gtr (tM 26) (kM (36))),
 oM 28 (.pick (tM 25) (.const (.bool true)) (tM 27))])
 (.cond (tM 28)
 (.ops [oM 29 (.stuck),
 nM (.stuck)])
 .skip))
 (.seq (.ops [oM 12 (.alloc [(.int .u8 0),(.int .u8 0),(.int .u8 0),(.int .u8 0),(.int .u8 0),(.int .u8 0),(.int .u8 0),(.int .u8 0),(.int .u8 0),(.int .u8 0),(.int .u8 0),(.int .u8 0),(.int .u8 0),(.int .u8 0),(.int .u8 0),(.int .u8 0),(.int .u8 0),(.int .u8 0),(.int .u8 0),(.int .u8 0),(.int .u8 0),(.int .u8 0),(.int .u8 0),(.int .u8 0),(.int .u8 0),(.int .u8 0),(.int .u8 0),(.int .u8 0),(.int .u8 0),(.int .u8 0),(.int .u8 0),(.int .u8 0),(.int .u8 0),(.int .u8 0),(.int .u8 0),(.int .u8 0),(.int .u8 0),(.int .u8 0),(.int .u8 0),(.int .u8 0),(.int .u8 0),(.int .u8 0),(.int .u8 0),(.int .u8 0),(.int .u8 0),(.int .u8 0),(.int .u8 0),(.int .u8 0),(.int .u8 0),(.int .u8 0),(.int .u8 0),(.int .u8 0),(.int .u8 0),(.int .u8 0),(.int .u8 0),(.int .u8 0),(.int .u8 0),(.int .u8 0),(.int .u8 0),(.int .u8 0),(.int .u8 0),(.int .u8 0),(.int .u8 0),(.int .u8 0),(.int .u8 0)])])
 (.seq (.ops [oM 13 (.mv (kM (65)))])
 (.seq (.seq (.ops [mM 30 3])
 (.cond (tM 30)
 (.ops [mM 31 1,
 oM 32 (.un .neg (tM 31)),
 mM 1 32])
 .skip))
 (.seq (.seq (.ops [mM 33 2,
 oM 34 (.call 0 146 [(tM 33)])])
 (.cond (tM 34)
 (.seq (.ops [mM 35 2,
 oM 36 (.conv .u64 (tM 35)),
 oM 37 (.call 0 147 [(tM 36)]),
 oM 38 (.conv .u64 (tM 37)),
 mM 14 38])
 (.seq (.ops [mM 39 2,
 oM 40 (.conv .u64 (tM 39)),
 mM 15 40])
 (.seq (.ops [mM 41 2,
 oM 42 (.conv .u64 (tM 41)),
 oM 43 (.bin .sub (tM 42) (.const (.int .u64 1))),
 mM 16 43])
 (.seq (.block 0
 (.loop
 (.seq (.seq (.ops [mM 44 1,
 mM 45 15,
 oM 46 (.bin .geq (tM 44) (tM 45))])
 (.cond (tM 46)
 .skip
 (.exit 0)))
 (.block 1
 (.seq (.ops [mM 47 13,
 oM 48 (.bin .sub (tM 47) (kM (1))),
 mM 13 48])
 (.seq (.ops [mM 49 13,
 mM 50 1,
 mM 51 16,
 oM 52 (.bin .and (tM 50) (tM 51)),
 oM 53 (.indexStr (.const (.str [48,49,50,51,52,53,54,55,56,57,97,98,99,100,101,102,103,104,105,106,107,108,109,110,111,112,113,114,115,116,117,118,119,120,121,122])) (tM 52)),
 oM 54 (.indexAddrA 65 1 (tM 12) (tM 49)),
 nM (.store 1 (tM 54) (tM 53))])
 (.ops [mM 55 1,
 mM 56 14,
 oM 57 (.bin .shr (tM 55) (tM 56)),
 mM 1 57])))))))
 (.seq (.ops [mM 58 13,
 oM 59 (.bin .sub (tM 58) (kM (1))),
 mM 13 59])
 (.ops [mM 60 13,
 mM 61 1,
 oM 62 (.indexStr (.const (.str [48,49,50,51,52,53,54,55,56,57,97,98,99,100,101,102,103,104,105,106,107,108,109,110,111,112,113,114,115,116,117,118,119,120,121,122])) (tM 61)),
 oM 63 (.indexAddrA 65 1 (tM 12) (tM 60)),
 nM (.store 1 (tM 63) (tM 62))]))))))
 (.seq (.ops [mM 64 2,
 oM 65 (.conv .u64 (tM 64)),
 mM 17 65])
 (.seq (.block 2
 (.loop
 (.seq (.seq (.ops [mM 66 1,
 mM 67 17,
 oM 68 (.bin .geq (tM 66) (tM 67))])
 (.cond (tM 68)
 .skip
 (.exit 2)))
 (.block 3
 (.seq (.ops [mM 69 13,
 oM 70 (.bin .sub (tM 69) (kM (1))),
 mM 13 70])
 (.seq (.ops [mM 71 1,
 mM 72 17,
 oM 73 (.bin .quo (tM 71) (tM 72)),
 mM 18 73])
 (.seq (.ops [mM 74 13,
 mM 75 1,
 mM 76 18,
 mM 77 17,
 oM 78 (.bin .mul (tM 76) (tM 77)),
 oM 79 (.bin .sub (tM 75) (tM 78)),
 oM 80 (.indexStr (.const (.str [48,49,50,51,52,53,54,55,56,57,97,98,99,100,101,102,103,104,105,106,107,108,109,110,111,112,113,114,115,116,117,118,119,120,121,122])) (tM 79)),
 oM 81 (.indexAddrA 65 1 (tM 12) (tM 74)),
 nM (.store 1 (tM 81) (tM 80))])
 (.ops [mM 82 18,
 mM 1 82]))))))))
 (.seq (.ops [mM 83 13,
 oM 84 (.bin .sub (tM 83) (kM (1))),
 mM 13 84])
 (.ops [mM 85 13,
 mM 86 1,
 oM 87 (.indexStr (.const (.str [48,49,50,51,52,53,54,55,56,57,97,98,99,100,101,102,103,104,105,106,107,108,109,110,111,112,113,114,115,116,117,118,119,120,121,122])) (tM 86)),
 oM 88 (.indexAddrA 65 1 (tM 12) (tM 85)),
 nM (.store 1 (tM 88) (tM 87))]))))))
 (.seq (.seq (.ops [mM 89 3])
 (.cond (tM 89)
 (.seq (.ops [mM 90 13,
 oM 91 (.bin .sub (tM 90) (kM (1))),
 mM 13 91])
 (.ops [mM 92 13,
 oM 93 (.indexAddrA 65 1 (tM 12) (tM 92)),
 nM (.store 1 (tM 93) (.const (.int .u8 45)))]))
 .skip))
 (.seq (.seq (.ops [mM 94 4])
 (.cond (tM 94)
 (.seq (.ops [mM 95 0,
 mM 96 13,
 oM 97 (.sliceA 65 1 (tM 12) (some (tM 96)) none),
 oM 98 (.append 1 (tM 95) (tM 97)),
 mM 10 98])
 .ret)
 .skip))
 (.seq (.ops [mM 99 13,
 oM 100 (.sliceA 65 1 (tM 12) (some (tM 99)) none),
 oM 101 (.strOf (tM 100)),
 mM 11 101])
 .ret)))))))))⟩
def eM:bN:=⟨[.tmp 2],
 (.seq (.ops [oM 2 (.mv (.const (.bool false)))])
 (.seq (.ops [mM 3 0,
 mM 4 0,
 oM 5 (.bin .sub (tM 4) (kM (1))),
 oM 6 (.bin .and (tM 3) (tM 5)),
 oM 7 (.bin .eql (tM 6) (kM (0))),
 mM 2 7])
 .ret))⟩
def iF:bN:=⟨[.cell 2 3 true,.tmp 3],
 (.seq (.ops [oM 1 (.box (tM 0)),
 oM 2 (.alloc [(.rd 0 [] true),(.rd 0 [] true),(.rd 0 [] true)]),
 oM 3 (.mv (.const (.int .u16 0)))])
 (.seq (.seq (.ops [oM 17 (.load false 3 true (tM 1)),
 oM 18 (.call 0 100 [(tM 17)]),
 oM 19 (.un .not (tM 18))])
 (.cond (tM 19)
 (.seq (.ops [oM 20 (.build [(.rd 0 [] true),(.rd 0 [] true),(.rd 0 [] true)] []),
 nM (.store 3 (tM 2) (tM 20)),
 oM 3 (.mv (.const (.int .u16 1)))])
 .ret)
 .skip))
 (.seq (.ops [oM 21 (.load false 3 true (tM 1)),
 oM 22 (.call 0 102 [(tM 21)]),
 oM 23 (.call 0 101 [(tM 22)]),
 oM 24 (.build [(.rd 0 [] true),(.rd 0 [] true),(.rd 0 [] true),(.rd 0 [] true)] [(0,3,(tM 23))]),
 oM 25 (.box (tM 24)),
 mM 4 25])
 (.seq (.ops [mM 26 4,
 oM 27 (.call 0 103 [(tM 26)])])
 (.seq (.ops [mM 28 4,
 mM 29 4,
 mM 30 4,
 oM 31 (.call 0 105 [(tM 30)]),
 oM 32 (.call 0 104 [(tM 29),(tM 31)]),
 oM 33 (.nilck (tM 28)),
 oM 34 (.fieldAddr 0 (tM 33)),
 nM (.store 3 (tM 34) (tM 32))])
 (.seq (.ops [mM 35 4,
 oM 36 (.call 0 105 [(tM 35)]),
 mM 5 36])
 (.seq (.ops [oM 37 (.mkmap (some .i64)),
 nM (.update (some .i64) (tM 37) (kM ((-1))) (kM ((-1)))),
 mM 38 37,
 mM 6 38])
 (.seq (.seq (.ops [mM 39 5,
 oM 40 (.len 0 (tM 39)),
 oM 41 (.mv (kM (0)))])
 (.block 0
 (.loop
 (.seq (.ops [oM 42 (.bin .lss (tM 41) (tM 40))])
 (.seq (.cond (tM 42)
 .skip
 (.exit 0))
 (.seq (.block 1
 (.seq (.ops [mM 43 41,
 oM 44 (.indexAddr 1 (tM 39) (tM 41)),
 oM 45 (.load false 1 false (tM 44)),
 mM 7 43,
 mM 8 45])
 (.ops [mM 46 6,
 mM 47 4,
 oM 48 (.nilck (tM 47)),
 oM 49 (.fieldAddr 3 (tM 48)),
 oM 50 (.load false 1 false (tM 49)),
 mM 51 8,
 oM 52 (.indexAddr 1 (tM 50) (tM 51)),
 oM 53 (.load false 1 false (tM 52)),
 mM 54 7,
 nM (.update (some .i64) (tM 46) (tM 53) (tM 54))])))
 (.ops [oM 55 (.bin .add (tM 41) (kM (1))),
 mM 41 55])))))))
 (.seq (.ops [oM 9 (.alloc [(.rd 0 [] true),(.rd 0 [] true),(.rd 0 [] true)])])
 (.seq (.seq (.ops [mM 56 4,
 oM 57 (.nilck (tM 56)),
 oM 58 (.fieldAddr 0 (tM 57)),
 oM 59 (.fieldAddr 0 (tM 58)),
 oM 60 (.load false 1 false (tM 59)),
 oM 61 (.len 0 (tM 60)),
 oM 62 (.mv (kM (0)))])
 (.block 2
 (.loop
 (.seq (.ops [oM 63 (.bin .lss (tM 62) (tM 61))])
 (.seq (.cond (tM 63)
 .skip
 (.exit 2))
 (.seq (.block 3
 (.seq (.ops [oM 64 (.indexAddr 1 (tM 60) (tM 62)),
 oM 65 (.load false 1 false (tM 64)),
 mM 11 65])
 (.ops [oM 66 (.fieldAddr 0 (tM 9)),
 oM 67 (.load false 1 false (tM 66)),
 mM 68 11,
 oM 69 (.call 1 106 [(tM 68)]),
 oM 70 (.lit 1 1 [(.rd 0 [] true)] [(0,1,(tM 69))]),
 oM 71 (.append 1 (tM 67) (tM 70)),
 oM 72 (.fieldAddr 0 (tM 9)),
 nM (.store 1 (tM 72) (tM 71))])))
 (.ops [oM 73 (.bin .add (tM 62) (kM (1))),
 mM 62 73])))))))
 (.seq (.seq (.ops [mM 74 5,
 oM 75 (.len 0 (tM 74)),
 oM 76 (.mv (kM (0)))])
 (.block 4
 (.loop
 (.seq (.ops [oM 77 (.bin .lss (tM 76) (tM 75))])
 (.seq (.cond (tM 77)
 .skip
 (.exit 4))
 (.seq (.block 5
 (.seq (.ops [oM 78 (.indexAddr 1 (tM 74) (tM 76)),
 oM 79 (.load false 1 false (tM 78)),
 mM 13 79])
 (.seq (.ops [oM 14 (.mv (.const (.rd 0 [] true)))])
 (.seq (.seq (.ops [mM 80 4,
 oM 81 (.nilck (tM 80)),
 oM 82 (.fieldAddr 0 (tM 81)),
 oM 83 (.fieldAddr 1 (tM 82)),
 oM 84 (.load false 1 false (tM 83)),
 mM 85 13,
 oM 86 (.indexAddr 1 (tM 84) (tM 85)),
 oM 87 (.load false 1 false (tM 86)),
 oM 88 (.len 0 (tM 87)),
 oM 89 (.mv (kM (0)))])
 (.block 6
 (.loop
 (.seq (.ops [oM 90 (.bin .lss (tM 89) (tM 88))])
 (.seq (.cond (tM 90)
 .skip
 (.exit 6))
 (.seq (.block 7
 (.seq (.ops [oM 91 (.indexAddr 1 (tM 87) (tM 89)),
 oM 92 (.load false 1 false (tM 91)),
 mM 16 92])
 (.ops [mM 93 14,
 mM 94 6,
 mM 95 4,
 mM 96 16,
 oM 97 (.call 0 107 [(tM 95),(tM 96)]),
 oM 98 (.lookup (some .i64) (.int .i64 0) false (tM 94) (tM 97)),
 oM 99 (.lit 1 1 [(.int .i64 0)] [(0,1,(tM 98))]),
 oM 100 (.append 1 (tM 93) (tM 99)),
 mM 14 100])))
 (.ops [oM 101 (.bin .add (tM 89) (kM (1))),
 mM 89 101])))))))
 (.seq (.ops [oM 102 (.fieldAddr 1 (tM 9)),
 oM 103 (.load false 1 false (tM 102)),
 mM 104 14,
 oM 105 (.lit 1 1 [(.rd 0 [] true)] [(0,1,(tM 104))]),
 oM 106 (.append 1 (tM 103) (tM 105)),
 oM 107 (.fieldAddr 1 (tM 9)),
 nM (.store 1 (tM 107) (tM 106))])
 (.ops [oM 108 (.fieldAddr 2 (tM 9)),
 oM 109 (.load false 1 false (tM 108)),
 mM 110 4,
 oM 111 (.nilck (tM 110)),
 oM 112 (.fieldAddr 0 (tM 111)),
 oM 113 (.fieldAddr 2 (tM 112)),
 oM 114 (.load false 1 false (tM 113)),
 mM 115 13,
 oM 116 (.indexAddr 1 (tM 114) (tM 115)),
 oM 117 (.load false 1 false (tM 116)),
 oM 118 (.lit 1 1 [(.int .i64 0)] [(0,1,(tM 117))]),
 oM 119 (.append 1 (tM 109) (tM 118)),
 oM 120 (.fieldAddr 2 (tM 9)),
 nM (.store 1 (tM 120) (tM 119))]))))))
 (.ops [oM 121 (.bin .add (tM 76) (kM (1))),
 mM 76 121])))))))
 (.seq (.ops [oM 122 (.load false 3 true (tM 9)),
 nM (.store 3 (tM 2) (tM 122)),
 oM 3 (.mv (.const (.int .u16 0)))])
 .ret))))))))))))⟩
def fT:bN:=⟨[.cell 2 3 true],
 (.seq (.ops [oM 1 (.box (tM 0)),
 oM 2 (.alloc [(.rd 0 [] true),(.rd 0 [] true),(.rd 0 [] true)])])
 (.seq (.ops [oM 8 (.load false 3 true (tM 1)),
 oM 9 (.call 0 115 [(tM 8)]),
 mM 3 9])
 (.seq (.seq (.ops [oM 10 (.fieldAddr 1 (tM 1)),
 oM 11 (.load false 1 false (tM 10)),
 oM 12 (.len 0 (tM 11)),
 oM 13 (.mv (kM (0)))])
 (.block 0
 (.loop
 (.seq (.ops [oM 14 (.bin .lss (tM 13) (tM 12))])
 (.seq (.cond (tM 14)
 .skip
 (.exit 0))
 (.seq (.block 1
 (.seq (.ops [mM 15 13,
 oM 16 (.indexAddr 1 (tM 11) (tM 13)),
 oM 17 (.load false 1 false (tM 16)),
 mM 4 15,
 mM 5 17])
 (.seq (.ops [mM 18 5,
 oM 19 (.call 0 116 [(tM 18)]),
 mM 5 19])
 (.seq (.seq (.ops [mM 20 5,
 oM 21 (.len 0 (tM 20)),
 oM 22 (.mv (kM (0)))])
 (.block 2
 (.loop
 (.seq (.ops [oM 23 (.bin .lss (tM 22) (tM 21))])
 (.seq (.cond (tM 23)
 .skip
 (.exit 2))
 (.seq (.block 3
 (.seq (.ops [mM 24 22,
 oM 25 (.indexAddr 1 (tM 20) (tM 22)),
 oM 26 (.load false 1 false (tM 25)),
 mM 6 24,
 mM 7 26])
 (.seq (.ops [mM 27 7,
 oM 28 (.bin .neq (tM 27) (kM ((-1)))),
 mM 29 28,
 gM 30 29 true (.mv (tM 3)),
 gM 31 29 true (.mv (tM 7)),
 gM 32 29 true (.indexAddr 1 (tM 30) (tM 31)),
 gM 33 29 true (.load false 1 false (tM 32)),
 gM 34 29 true (.un .not (tM 33)),
 oM 35 (.pick (tM 29) (tM 34) (.const (.bool false)))])
 (.cond (tM 35)
 (.ops [mM 36 5,
 mM 37 6,
 oM 38 (.indexAddr 1 (tM 36) (tM 37)),
 nM (.store 1 (tM 38) (kM ((-1))))])
 .skip))))
 (.ops [oM 39 (.bin .add (tM 22) (kM (1))),
 mM 22 39])))))))
 (.ops [oM 40 (.fieldAddr 1 (tM 1)),
 oM 41 (.load false 1 false (tM 40)),
 mM 42 4,
 mM 43 5,
 oM 44 (.indexAddr 1 (tM 41) (tM 42)),
 nM (.store 1 (tM 44) (tM 43))])))))
 (.ops [oM 45 (.bin .add (tM 13) (kM (1))),
 mM 13 45])))))))
 (.seq (.ops [oM 46 (.load false 3 true (tM 1)),
 nM (.store 3 (tM 2) (tM 46))])
 .ret))))⟩
def gF:bN:=⟨[.cell 2 3 true],
 (.seq (.ops [oM 1 (.box (tM 0)),
 oM 2 (.alloc [(.rd 0 [] true),(.rd 0 [] true),(.rd 0 [] true)])])
 (.seq (.ops [oM 8 (.fieldAddr 2 (tM 1)),
 oM 9 (.load false 1 false (tM 8)),
 oM 10 (.fieldAddr 1 (tM 1)),
 oM 11 (.load false 1 false (tM 10)),
 oM 12 (.len 0 (tM 11)),
 oM 13 (.mkslice [(.rd 0 [] true)] (tM 12) (tM 12)),
 oM 14 (.build [(.rd 0 [] true),(.rd 0 [] true),(.rd 0 [] true)] [(2,1,(tM 9)),(1,1,(tM 13))]),
 oM 3 (.alloc [(.rd 0 [] true),(.rd 0 [] true),(.rd 0 [] true)]),
 nM (.store 3 (tM 3) (tM 14))])
 (.seq (.seq (.ops [oM 15 (.fieldAddr 0 (tM 1)),
 oM 16 (.load false 1 false (tM 15)),
 oM 17 (.len 0 (tM 16)),
 oM 18 (.mv (kM (0)))])
 (.block 0
 (.loop
 (.seq (.ops [oM 19 (.bin .lss (tM 18) (tM 17))])
 (.seq (.cond (tM 19)
 .skip
 (.exit 0))
 (.seq (.block 1
 (.seq (.ops [mM 20 18,
 oM 21 (.indexAddr 1 (tM 16) (tM 18)),
 oM 22 (.load false 1 false (tM 21)),
 mM 4 20,
 mM 5 22])
 (.seq (.seq (.ops [mM 23 5,
 oM 24 (.len 0 (tM 23)),
 oM 25 (.bin .eql (tM 24) (kM (0)))])
 (.cond (tM 25)
 (.exit 1)
 .skip))
 (.seq (.ops [oM 26 (.fieldAddr 0 (tM 3)),
 oM 27 (.load false 1 false (tM 26)),
 mM 28 5,
 oM 29 (.lit 1 1 [(.rd 0 [] true)] [(0,1,(tM 28))]),
 oM 30 (.append 1 (tM 27) (tM 29)),
 oM 31 (.fieldAddr 0 (tM 3)),
 nM (.store 1 (tM 31) (tM 30))])
 (.seq (.ops [oM 32 (.fieldAddr 1 (tM 1)),
 oM 33 (.load false 1 false (tM 32)),
 oM 34 (.len 0 (tM 33)),
 oM 35 (.mv (kM (0)))])
 (.block 2
 (.loop
 (.seq (.ops [oM 36 (.bin .lss (tM 35) (tM 34))])
 (.seq (.cond (tM 36)
 .skip
 (.exit 2))
 (.seq (.block 3
 (.seq (.ops [mM 37 35,
 oM 38 (.indexAddr 1 (tM 33) (tM 35)),
 oM 39 (.load false 1 false (tM 38)),
 mM 6 37,
 mM 7 39])
 (.ops [oM 40 (.fieldAddr 1 (tM 3)),
 oM 41 (.load true 1 false (tM 40)),
 mM 42 6,
 oM 43 (.fieldAddr 1 (tM 3)),
 oM 44 (.load false 1 false (tM 43)),
 mM 45 6,
 oM 46 (.indexAddr 1 (tM 44) (tM 45)),
 oM 47 (.load false 1 false (tM 46)),
 mM 48 7,
 mM 49 4,
 oM 50 (.indexAddr 1 (tM 48) (tM 49)),
 oM 51 (.load false 1 false (tM 50)),
 oM 52 (.lit 1 1 [(.int .i64 0)] [(0,1,(tM 51))]),
 oM 53 (.append 1 (tM 47) (tM 52)),
 oM 54 (.indexAddr 1 (tM 41) (tM 42)),
 nM (.store 1 (tM 54) (tM 53))])))
 (.ops [oM 55 (.bin .add (tM 35) (kM (1))),
 mM 35 55])))))))))))
 (.ops [oM 56 (.bin .add (tM 18) (kM (1))),
 mM 18 56])))))))
 (.seq (.ops [oM 57 (.load false 3 true (tM 3)),
 nM (.store 3 (tM 2) (tM 57))])
 .ret))))⟩
def dY:bN:=⟨[],
 (.seq (.ops [mM 4 0,
 mM 5 0,
 oM 6 (.nilck (tM 5)),
 oM 7 (.fieldAddr 0 (tM 6)),
 oM 8 (.fieldAddr 2 (tM 7)),
 oM 9 (.load false 1 false (tM 8)),
 oM 10 (.call 0 116 [(tM 9)]),
 oM 11 (.nilck (tM 4)),
 oM 12 (.fieldAddr 3 (tM 11)),
 nM (.store 1 (tM 12) (tM 10))])
 (.seq (.ops [oM 2 (.mv (kM (0)))])
 (.seq .skip
 (.block 0
 (.loop
 (.block 1
 (.seq (.ops [mM 13 0,
 oM 14 (.call 0 117 [(tM 13)]),
 mM 3 14])
 (.seq (.seq (.ops [mM 15 3,
 mM 16 2,
 oM 17 (.bin .eql (tM 15) (tM 16))])
 (.cond (tM 17)
 (.exit 0)
 .skip))
 (.ops [mM 18 3,
 mM 2 18])))))))))⟩
def dZ:bN:=⟨[.cell 4 3 true],
 (.seq (.ops [oM 4 (.alloc [(.rd 0 [] true),(.rd 0 [] true),(.rd 0 [] true)])])
 (.seq (.ops [oM 23 (.mkmap none),
 mM 5 23])
 (.seq (.ops [mM 24 0,
 oM 25 (.nilck (tM 24)),
 oM 26 (.fieldAddr 0 (tM 25)),
 oM 27 (.fieldAddr 2 (tM 26)),
 oM 28 (.load false 1 false (tM 27)),
 mM 29 0,
 oM 30 (.nilck (tM 29)),
 oM 31 (.fieldAddr 0 (tM 30)),
 oM 32 (.fieldAddr 1 (tM 31)),
 oM 33 (.load false 1 false (tM 32)),
 oM 34 (.len 0 (tM 33)),
 oM 35 (.mkslice [(.rd 0 [] true)] (tM 34) (tM 34)),
 oM 36 (.build [(.rd 0 [] true),(.rd 0 [] true),(.rd 0 [] true)] [(2,1,(tM 28)),(1,1,(tM 35))]),
 oM 6 (.alloc [(.rd 0 [] true),(.rd 0 [] true),(.rd 0 [] true)]),
 nM (.store 3 (tM 6) (tM 36))])
 (.seq (.ops [oM 7 (.mv (.const (.rd 0 [] true)))])
 (.seq (.seq (.ops [mM 37 0,
 oM 38 (.nilck (tM 37)),
 oM 39 (.fieldAddr 0 (tM 38)),
 oM 40 (.fieldAddr 0 (tM 39)),
 oM 41 (.load false 1 false (tM 40)),
 oM 42 (.len 0 (tM 41)),
 oM 43 (.mv (kM (0)))])
 (.block 0
 (.loop
 (.seq (.ops [oM 44 (.bin .lss (tM 43) (tM 42))])
 (.seq (.cond (tM 44)
 .skip
 (.exit 0))
 (.seq (.block 1
 (.seq (.ops [mM 45 43,
 oM 46 (.indexAddr 1 (tM 41) (tM 43)),
 oM 47 (.load false 1 false (tM 46)),
 mM 8 45,
 mM 9 47])
 (.seq (.ops [oM 48 (.lit 1 0 [] []),
 mM 10 48])
 (.seq (.ops [oM 11 (.mv (.const (.bool false)))])
 (.seq (.seq (.ops [mM 49 1,
 oM 50 (.len 0 (tM 49)),
 oM 51 (.mv (kM (0)))])
 (.block 2
 (.loop
 (.seq (.ops [oM 52 (.bin .lss (tM 51) (tM 50))])
 (.seq (.cond (tM 52)
 .skip
 (.exit 2))
 (.seq (.block 3
 (.seq (.ops [oM 53 (.indexAddr 1 (tM 49) (tM 51)),
 oM 54 (.load false 1 false (tM 53)),
 mM 13 54])
 (.seq (.ops [mM 55 11,
 mM 56 55,
 gM 57 56 false (.mv (tM 0)),
 gM 58 56 false (.nilck (tM 57)),
 gM 59 56 false (.fieldAddr 0 (tM 58)),
 gM 60 56 false (.fieldAddr 1 (tM 59)),
 gM 61 56 false (.load false 1 false (tM 60)),
 gM 62 56 false (.mv (tM 13)),
 gM 63 56 false (.indexAddr 1 (tM 61) (tM 62)),
 gM 64 56 false (.load false 1 false (tM 63)),
 gM 65 56 false (.mv (tM 8)),
 gM 66 56 false (.indexAddr 1 (tM 64) (tM 65)),
 gM 67 56 false (.load false 1 false (tM 66)),
 gM 68 56 false (.bin .neq (tM 67) (kM ((-1)))),
 oM 69 (.pick (tM 56) (.const (.bool true)) (tM 68)),
 mM 11 69])
 (.ops [mM 70 10,
 oM 71 (.lit 1 1 [(.int .u8 0)] [(0,1,(.const (.int .u8 32)))]),
 oM 72 (.append 1 (tM 70) (tM 71)),
 mM 73 0,
 mM 74 0,
 oM 75 (.nilck (tM 74)),
 oM 76 (.fieldAddr 0 (tM 75)),
 oM 77 (.fieldAddr 1 (tM 76)),
 oM 78 (.load true 1 false (tM 77)),
 mM 79 13,
 oM 80 (.indexAddr 1 (tM 78) (tM 79)),
 oM 81 (.load true 1 false (tM 80)),
 mM 82 8,
 oM 83 (.indexAddr 1 (tM 81) (tM 82)),
 oM 84 (.load true 1 false (tM 83)),
 oM 85 (.call 0 107 [(tM 73),(tM 84)]),
 oM 86 (.call 0 118 [(tM 72),(tM 85),(kM (36))]),
 mM 10 86]))))
 (.ops [oM 87 (.bin .add (tM 51) (kM (1))),
 mM 51 87])))))))
 (.seq (.ops [mM 89 5,
 mM 90 10,
 oM 91 (.strOf (tM 90)),
 oM 92 (.lookup none (.int .i64 0) true (tM 89) (tM 91)),
 mM 88 92,
 oM 93 (.extract (tM 88) 0),
 oM 94 (.extract (tM 88) 1),
 mM 14 93,
 mM 15 94])
 (.block 4
 (.seq (.ops [mM 111 11,
 oM 112 (.un .not (tM 111)),
 mM 110 112])
 (.cond (tM 110)
 .skip
 (.seq (.ops [mM 114 15,
 mM 113 114])
 (.cond (tM 113)
 (.ops [oM 115 (.fieldAddr 0 (tM 6)),
 oM 116 (.load false 1 false (tM 115)),
 mM 117 14,
 oM 118 (.fieldAddr 0 (tM 6)),
 oM 119 (.load false 1 false (tM 118)),
 mM 120 14,
 oM 121 (.indexAddr 1 (tM 119) (tM 120)),
 oM 122 (.load false 1 false (tM 121)),
 mM 123 9,
 oM 124 (.lit 1 2 [(.rd 0 [] true),(.rd 0 [] true)] [(0,1,(tM 122)),(1,1,(tM 123))]),
 oM 125 (.call 1 119 [(tM 124)]),
 oM 126 (.indexAddr 1 (tM 116) (tM 117)),
 nM (.store 1 (tM 126) (tM 125))])
 (.seq (.ops [mM 95 5,
 mM 96 10,
 oM 97 (.strOf (tM 96)),
 mM 98 7,
 oM 99 (.len 0 (tM 98)),
 nM (.update none (tM 95) (tM 97) (tM 99))])
 (.seq (.ops [mM 100 7,
 mM 101 8,
 oM 102 (.lit 1 1 [(.int .i64 0)] [(0,1,(tM 101))]),
 oM 103 (.append 1 (tM 100) (tM 102)),
 mM 7 103])
 (.ops [oM 104 (.fieldAddr 0 (tM 6)),
 oM 105 (.load false 1 false (tM 104)),
 mM 106 9,
 oM 107 (.lit 1 1 [(.rd 0 [] true)] [(0,1,(tM 106))]),
 oM 108 (.append 1 (tM 105) (tM 107)),
 oM 109 (.fieldAddr 0 (tM 6)),
 nM (.store 1 (tM 109) (tM 108))]))))))))))))))
 (.ops [oM 127 (.bin .add (tM 43) (kM (1))),
 mM 43 127])))))))
 (.seq (.ops [mM 128 7,
 oM 129 (.len 0 (tM 128)),
 oM 130 (.mkslice [(.int .i64 0)] (tM 129) (tM 129)),
 mM 16 130])
 (.seq (.seq (.ops [mM 131 16,
 oM 132 (.len 0 (tM 131)),
 oM 133 (.mv (kM (0)))])
 (.block 5
 (.loop
 (.seq (.ops [oM 134 (.bin .lss (tM 133) (tM 132))])
 (.seq (.cond (tM 134)
 .skip
 (.exit 5))
 (.seq (.block 6
 (.seq (.ops [mM 135 133,
 mM 17 135])
 (.ops [mM 136 16,
 mM 137 17,
 mM 138 17,
 oM 139 (.indexAddr 1 (tM 136) (tM 137)),
 nM (.store 1 (tM 139) (tM 138))])))
 (.ops [oM 140 (.bin .add (tM 133) (kM (1))),
 mM 133 140])))))))
 (.seq (.ops [mM 141 16,
 oM 142 (.mkfn 121 [(tM 6)]),
 oM 143 (.call 0 120 [(tM 141),(tM 142)])])
 (.seq (.ops [oM 18 (.mv (.const (.rd 0 [] true)))])
 (.seq (.seq (.ops [mM 144 16,
 oM 145 (.len 0 (tM 144)),
 oM 146 (.mv (kM (0)))])
 (.block 7
 (.loop
 (.seq (.ops [oM 147 (.bin .lss (tM 146) (tM 145))])
 (.seq (.cond (tM 147)
 .skip
 (.exit 7))
 (.seq (.block 8
 (.seq (.ops [oM 148 (.indexAddr 1 (tM 144) (tM 146)),
 oM 149 (.load false 1 false (tM 148)),
 mM 20 149])
 (.seq (.ops [mM 150 18,
 oM 151 (.fieldAddr 0 (tM 6)),
 oM 152 (.load false 1 false (tM 151)),
 mM 153 20,
 oM 154 (.indexAddr 1 (tM 152) (tM 153)),
 oM 155 (.load false 1 false (tM 154)),
 oM 156 (.lit 1 1 [(.rd 0 [] true)] [(0,1,(tM 155))]),
 oM 157 (.append 1 (tM 150) (tM 156)),
 mM 18 157])
 (.seq (.ops [mM 158 0,
 oM 159 (.nilck (tM 158)),
 oM 160 (.fieldAddr 0 (tM 159)),
 oM 161 (.fieldAddr 1 (tM 160)),
 oM 162 (.load false 1 false (tM 161)),
 oM 163 (.len 0 (tM 162)),
 oM 164 (.mv (kM (0)))])
 (.block 9
 (.loop
 (.seq (.ops [oM 165 (.bin .lss (tM 164) (tM 163))])
 (.seq (.cond (tM 165)
 .skip
 (.exit 9))
 (.seq (.block 10
 (.seq (.ops [mM 166 164,
 oM 167 (.indexAddr 1 (tM 162) (tM 164)),
 oM 168 (.load false 1 false (tM 167)),
 mM 21 166,
 mM 22 168])
 (.ops [oM 169 (.fieldAddr 1 (tM 6)),
 oM 170 (.load true 1 false (tM 169)),
 mM 171 21,
 oM 172 (.fieldAddr 1 (tM 6)),
 oM 173 (.load false 1 false (tM 172)),
 mM 174 21,
 oM 175 (.indexAddr 1 (tM 173) (tM 174)),
 oM 176 (.load false 1 false (tM 175)),
 mM 177 22,
 mM 178 7,
 mM 179 20,
 oM 180 (.indexAddr 1 (tM 178) (tM 179)),
 oM 181 (.load false 1 false (tM 180)),
 oM 182 (.indexAddr 1 (tM 177) (tM 181)),
 oM 183 (.load false 1 false (tM 182)),
 oM 184 (.lit 1 1 [(.int .i64 0)] [(0,1,(tM 183))]),
 oM 185 (.append 1 (tM 176) (tM 184)),
 oM 186 (.indexAddr 1 (tM 170) (tM 171)),
 nM (.store 1 (tM 186) (tM 185))])))
 (.ops [oM 187 (.bin .add (tM 164) (kM (1))),
 mM 164 187]))))))))))
 (.ops [oM 188 (.bin .add (tM 146) (kM (1))),
 mM 146 188])))))))
 (.seq (.ops [mM 189 18,
 oM 190 (.fieldAddr 0 (tM 6)),
 nM (.store 1 (tM 190) (tM 189))])
 (.seq (.ops [oM 191 (.load false 3 true (tM 6)),
 nM (.store 3 (tM 4) (tM 191))])
 .ret))))))))))))⟩
def ei:bN:=⟨[.tmp 2],
 (.seq (.ops [oM 2 (.mv (.const (.rd 0 [] true)))])
 (.seq (.ops [oM 10 (.lit 1 1 [(.int .i64 0)] [(0,1,(kM (0)))]),
 mM 3 10])
 (.seq (.ops [oM 11 (.mkmap (some .i64)),
 mM 12 0,
 oM 13 (.nilck (tM 12)),
 oM 14 (.fieldAddr 3 (tM 13)),
 oM 15 (.load false 1 false (tM 14)),
 oM 16 (.indexAddr 1 (tM 15) (kM (0))),
 oM 17 (.load false 1 false (tM 16)),
 nM (.update (some .i64) (tM 11) (tM 17) (kM (0))),
 mM 18 11,
 mM 4 18])
 (.seq (.seq (.ops [oM 5 (.mv (kM (0)))])
 (.block 0
 (.loop
 (.seq (.seq (.ops [mM 19 5,
 mM 20 3,
 oM 21 (.len 0 (tM 20)),
 oM 22 (.bin .lss (tM 19) (tM 21))])
 (.cond (tM 22)
 .skip
 (.exit 0)))
 (.seq (.block 1
 (.seq (.ops [mM 25 0,
 oM 26 (.nilck (tM 25)),
 oM 27 (.fieldAddr 0 (tM 26)),
 oM 28 (.fieldAddr 1 (tM 27)),
 oM 29 (.load false 1 false (tM 28)),
 mM 30 3,
 mM 31 5,
 oM 32 (.indexAddr 1 (tM 30) (tM 31)),
 oM 33 (.load false 1 false (tM 32)),
 oM 34 (.indexAddr 1 (tM 29) (tM 33)),
 oM 35 (.load false 1 false (tM 34)),
 oM 36 (.len 0 (tM 35)),
 oM 37 (.mv (kM (0)))])
 (.block 2
 (.loop
 (.seq (.ops [oM 38 (.bin .lss (tM 37) (tM 36))])
 (.seq (.cond (tM 38)
 .skip
 (.exit 2))
 (.seq (.block 3
 (.seq (.ops [oM 39 (.indexAddr 1 (tM 35) (tM 37)),
 oM 40 (.load false 1 false (tM 39)),
 mM 7 40])
 (.seq (.ops [mM 42 4,
 mM 43 0,
 mM 44 7,
 oM 45 (.call 0 107 [(tM 43),(tM 44)]),
 oM 46 (.lookup (some .i64) (.int .i64 0) true (tM 42) (tM 45)),
 mM 41 46,
 oM 47 (.extract (tM 41) 0),
 oM 48 (.extract (tM 41) 1),
 mM 8 47,
 mM 9 48])
 (.seq (.ops [mM 49 7,
 oM 50 (.bin .neq (tM 49) (kM ((-1)))),
 mM 51 50,
 gM 52 51 true (.mv (tM 9)),
 gM 53 51 true (.un .not (tM 52)),
 oM 54 (.pick (tM 51) (tM 53) (.const (.bool false)))])
 (.cond (tM 54)
 (.seq (.ops [mM 55 4,
 mM 56 0,
 oM 57 (.nilck (tM 56)),
 oM 58 (.fieldAddr 3 (tM 57)),
 oM 59 (.load false 1 false (tM 58)),
 mM 60 7,
 oM 61 (.indexAddr 1 (tM 59) (tM 60)),
 oM 62 (.load false 1 false (tM 61)),
 mM 63 3,
 oM 64 (.len 0 (tM 63)),
 nM (.update (some .i64) (tM 55) (tM 62) (tM 64))])
 (.ops [mM 65 3,
 mM 66 7,
 oM 67 (.lit 1 1 [(.int .i64 0)] [(0,1,(tM 66))]),
 oM 68 (.append 1 (tM 65) (tM 67)),
 mM 3 68]))
 .skip)))))
 (.ops [oM 69 (.bin .add (tM 37) (kM (1))),
 mM 37 69]))))))))
 (.ops [mM 23 5,
 oM 24 (.bin .add (tM 23) (kM (1))),
 mM 5 24]))))))
 (.seq (.ops [mM 70 3,
 mM 2 70])
 .ret)))))⟩
def eE:bN:=⟨[.tmp 4],
 (.seq (.ops [oM 4 (.mv (kM (0)))])
 (.seq (.seq (.ops [mM 5 1,
 oM 6 (.bin .eql (tM 5) (kM ((-1))))])
 (.cond (tM 6)
 (.seq (.ops [oM 4 (.mv (kM ((-1))))])
 .ret)
 .skip))
 (.seq (.ops [mM 7 0,
 oM 8 (.nilck (tM 7)),
 oM 9 (.fieldAddr 3 (tM 8)),
 oM 10 (.load false 1 false (tM 9)),
 mM 11 1,
 oM 12 (.indexAddr 1 (tM 10) (tM 11)),
 oM 13 (.load false 1 false (tM 12)),
 mM 4 13])
 .ret)))⟩
def gE:bN:=⟨[.tmp 2],
 (.seq (.ops [oM 1 (.box (tM 0)),
 oM 2 (.mv (.const (.rd 0 [] true)))])
 (.seq (.ops [oM 13 (.fieldAddr 2 (tM 1)),
 oM 14 (.load false 1 false (tM 13)),
 oM 15 (.len 0 (tM 14)),
 oM 16 (.mkslice [(.rd 0 [] true)] (tM 15) (tM 15)),
 mM 3 16])
 (.seq (.ops [oM 17 (.fieldAddr 2 (tM 1)),
 oM 18 (.load false 1 false (tM 17)),
 oM 19 (.len 0 (tM 18)),
 oM 20 (.mkslice [(.bool false)] (tM 19) (tM 19)),
 mM 4 20])
 (.seq (.ops [oM 5 (.mv (.const (.rd 0 [] true)))])
 (.seq (.seq (.ops [oM 21 (.fieldAddr 1 (tM 1)),
 oM 22 (.load false 1 false (tM 21)),
 oM 23 (.len 0 (tM 22)),
 oM 24 (.mv (kM (0)))])
 (.block 0
 (.loop
 (.seq (.ops [oM 25 (.bin .lss (tM 24) (tM 23))])
 (.seq (.cond (tM 25)
 .skip
 (.exit 0))
 (.seq (.block 1
 (.seq (.ops [mM 26 24,
 oM 27 (.indexAddr 1 (tM 22) (tM 24)),
 oM 28 (.load false 1 false (tM 27)),
 mM 6 26,
 mM 7 28])
 (.seq (.seq (.ops [mM 29 7,
 oM 30 (.len 0 (tM 29)),
 oM 31 (.mv (kM (0)))])
 (.block 2
 (.loop
 (.seq (.ops [oM 32 (.bin .lss (tM 31) (tM 30))])
 (.seq (.cond (tM 32)
 .skip
 (.exit 2))
 (.seq (.block 3
 (.seq (.ops [oM 33 (.indexAddr 1 (tM 29) (tM 31)),
 oM 34 (.load false 1 false (tM 33)),
 mM 9 34])
 (.seq (.ops [mM 35 9,
 oM 36 (.bin .neq (tM 35) (kM ((-1))))])
 (.cond (tM 36)
 (.ops [mM 37 3,
 mM 38 9,
 mM 39 3,
 mM 40 9,
 oM 41 (.indexAddr 1 (tM 39) (tM 40)),
 oM 42 (.load false 1 false (tM 41)),
 mM 43 6,
 oM 44 (.lit 1 1 [(.int .i64 0)] [(0,1,(tM 43))]),
 oM 45 (.append 1 (tM 42) (tM 44)),
 oM 46 (.indexAddr 1 (tM 37) (tM 38)),
 nM (.store 1 (tM 46) (tM 45))])
 .skip))))
 (.ops [oM 47 (.bin .add (tM 31) (kM (1))),
 mM 31 47])))))))
 (.seq (.ops [oM 48 (.fieldAddr 2 (tM 1)),
 oM 49 (.load false 1 false (tM 48)),
 mM 50 6,
 oM 51 (.indexAddr 1 (tM 49) (tM 50)),
 oM 52 (.load false 1 false (tM 51)),
 oM 53 (.bin .geq (tM 52) (kM (0)))])
 (.cond (tM 53)
 (.seq (.ops [mM 54 4,
 mM 55 6,
 oM 56 (.indexAddr 1 (tM 54) (tM 55)),
 nM (.store 1 (tM 56) (.const (.bool true)))])
 (.ops [mM 57 5,
 mM 58 6,
 oM 59 (.lit 1 1 [(.int .i64 0)] [(0,1,(tM 58))]),
 oM 60 (.append 1 (tM 57) (tM 59)),
 mM 5 60]))
 .skip)))))
 (.ops [oM 61 (.bin .add (tM 24) (kM (1))),
 mM 24 61])))))))
 (.seq (.block 4
 (.loop
 (.seq (.seq (.ops [mM 62 5,
 oM 63 (.len 0 (tM 62)),
 oM 64 (.bin .gtr (tM 63) (kM (0)))])
 (.cond (tM 64)
 .skip
 (.exit 4)))
 (.block 5
 (.seq (.ops [mM 65 5,
 mM 66 5,
 oM 67 (.len 0 (tM 66)),
 oM 68 (.bin .sub (tM 67) (kM (1))),
 oM 69 (.indexAddr 1 (tM 65) (tM 68)),
 oM 70 (.load false 1 false (tM 69)),
 mM 10 70])
 (.seq (.ops [mM 71 5,
 mM 72 5,
 oM 73 (.len 0 (tM 72)),
 oM 74 (.bin .sub (tM 73) (kM (1))),
 oM 75 (.slice 1 (tM 71) none (some (tM 74)) none),
 mM 5 75])
 (.seq (.ops [mM 76 3,
 mM 77 10,
 oM 78 (.indexAddr 1 (tM 76) (tM 77)),
 oM 79 (.load false 1 false (tM 78)),
 oM 80 (.len 0 (tM 79)),
 oM 81 (.mv (kM (0)))])
 (.block 6
 (.loop
 (.seq (.ops [oM 82 (.bin .lss (tM 81) (tM 80))])
 (.seq (.cond (tM 82)
 .skip
 (.exit 6))
 (.seq (.block 7
 (.seq (.ops [oM 83 (.indexAddr 1 (tM 79) (tM 81)),
 oM 84 (.load false 1 false (tM 83)),
 mM 12 84])
 (.seq (.ops [mM 85 4,
 mM 86 12,
 oM 87 (.indexAddr 1 (tM 85) (tM 86)),
 oM 88 (.load false 1 false (tM 87)),
 oM 89 (.un .not (tM 88))])
 (.cond (tM 89)
 (.seq (.ops [mM 90 4,
 mM 91 12,
 oM 92 (.indexAddr 1 (tM 90) (tM 91)),
 nM (.store 1 (tM 92) (.const (.bool true)))])
 (.ops [mM 93 5,
 mM 94 12,
 oM 95 (.lit 1 1 [(.int .i64 0)] [(0,1,(tM 94))]),
 oM 96 (.append 1 (tM 93) (tM 95)),
 mM 5 96]))
 .skip))))
 (.ops [oM 97 (.bin .add (tM 81) (kM (1))),
 mM 81 97])))))))))))))
 (.seq (.ops [mM 98 4,
 mM 2 98])
 .ret)))))))⟩
def eh:bN:=⟨[.tmp 2],
 (.seq (.ops [oM 2 (.mv (kM (0)))])
 (.seq (.ops [oM 9 (.mkmap none),
 mM 3 9])
 (.seq (.ops [mM 10 0,
 oM 11 (.nilck (tM 10)),
 oM 12 (.fieldAddr 3 (tM 11)),
 oM 13 (.load false 1 false (tM 12)),
 oM 14 (.len 0 (tM 13)),
 oM 15 (.mkslice [(.int .i64 0)] (tM 14) (tM 14)),
 mM 4 15])
 (.seq (.seq (.ops [mM 16 0,
 oM 17 (.nilck (tM 16)),
 oM 18 (.fieldAddr 3 (tM 17)),
 oM 19 (.load false 1 false (tM 18)),
 oM 20 (.len 0 (tM 19)),
 oM 21 (.mv (kM (0)))])
 (.block 0
 (.loop
 (.seq (.ops [oM 22 (.bin .lss (tM 21) (tM 20))])
 (.seq (.cond (tM 22)
 .skip
 (.exit 0))
 (.seq (.block 1
 (.seq (.ops [mM 23 21,
 mM 5 23])
 (.seq (.ops [mM 24 0,
 mM 25 5,
 oM 26 (.call 0 123 [(tM 24),(tM 25)]),
 mM 6 26])
 (.seq (.ops [mM 28 3,
 mM 29 6,
 oM 30 (.lookup none (.int .i64 0) true (tM 28) (tM 29)),
 mM 27 30,
 oM 31 (.extract (tM 27) 0),
 oM 32 (.extract (tM 27) 1),
 mM 7 31,
 mM 8 32])
 (.seq (.seq (.ops [mM 33 8,
 oM 34 (.un .not (tM 33))])
 (.cond (tM 34)
 (.seq (.ops [mM 35 3,
 oM 36 (.len 2 (tM 35)),
 mM 7 36])
 (.ops [mM 37 3,
 mM 38 6,
 mM 39 7,
 nM (.update none (tM 37) (tM 38) (tM 39))]))
 .skip))
 (.ops [mM 40 4,
 mM 41 5,
 mM 42 7,
 oM 43 (.indexAddr 1 (tM 40) (tM 41)),
 nM (.store 1 (tM 43) (tM 42))]))))))
 (.ops [oM 44 (.bin .add (tM 21) (kM (1))),
 mM 21 44])))))))
 (.seq (.ops [mM 45 0,
 mM 46 4,
 oM 47 (.nilck (tM 45)),
 oM 48 (.fieldAddr 3 (tM 47)),
 nM (.store 1 (tM 48) (tM 46))])
 (.seq (.ops [mM 49 3,
 oM 50 (.len 2 (tM 49)),
 mM 2 50])
 .ret))))))⟩
def eD:bN:=⟨[.tmp 4],
 (.seq (.ops [oM 4 (.mv (.const (.str [])))])
 (.seq (.ops [mM 8 0,
 oM 9 (.nilck (tM 8)),
 oM 10 (.fieldAddr 3 (tM 9)),
 oM 11 (.load false 1 false (tM 10)),
 mM 12 1,
 oM 13 (.indexAddr 1 (tM 11) (tM 12)),
 oM 14 (.load false 1 false (tM 13)),
 oM 15 (.call 0 118 [(.const (.rd 0 [] true)),(tM 14),(kM (36))]),
 mM 5 15])
 (.seq (.seq (.ops [mM 16 0,
 oM 17 (.nilck (tM 16)),
 oM 18 (.fieldAddr 0 (tM 17)),
 oM 19 (.fieldAddr 1 (tM 18)),
 oM 20 (.load false 1 false (tM 19)),
 mM 21 1,
 oM 22 (.indexAddr 1 (tM 20) (tM 21)),
 oM 23 (.load false 1 false (tM 22)),
 oM 24 (.len 0 (tM 23)),
 oM 25 (.mv (kM (0)))])
 (.block 0
 (.loop
 (.seq (.ops [oM 26 (.bin .lss (tM 25) (tM 24))])
 (.seq (.cond (tM 26)
 .skip
 (.exit 0))
 (.seq (.block 1
 (.seq (.ops [oM 27 (.indexAddr 1 (tM 23) (tM 25)),
 oM 28 (.load false 1 false (tM 27)),
 mM 7 28])
 (.seq (.ops [mM 29 5,
 oM 30 (.lit 1 1 [(.int .u8 0)] [(0,1,(.const (.int .u8 32)))]),
 oM 31 (.append 1 (tM 29) (tM 30)),
 mM 5 31])
 (.ops [mM 32 5,
 mM 33 0,
 mM 34 7,
 oM 35 (.call 0 107 [(tM 33),(tM 34)]),
 oM 36 (.call 0 118 [(tM 32),(tM 35),(kM (36))]),
 mM 5 36]))))
 (.ops [oM 37 (.bin .add (tM 25) (kM (1))),
 mM 25 37])))))))
 (.seq (.ops [mM 38 5,
 oM 39 (.strOf (tM 38)),
 mM 4 39])
 .ret))))⟩
def gY:bN:=⟨[.tmp 2],
 (.seq (.ops [oM 1 (.box (tM 0)),
 oM 2 (.mv (.const (.bool false)))])
 (.seq (.ops [oM 7 (.fieldAddr 2 (tM 1)),
 oM 8 (.load false 1 false (tM 7)),
 oM 9 (.len 0 (tM 8)),
 oM 3 (.alloc [(.int .i64 0)]),
 nM (.store 1 (tM 3) (tM 9))])
 (.seq (.seq (.ops [oM 10 (.fieldAddr 0 (tM 1)),
 oM 11 (.load false 1 false (tM 10)),
 oM 12 (.len 0 (tM 11)),
 oM 13 (.bin .gtr (tM 12) (kM (2000))),
 mM 14 13,
 gM 15 14 false (.load false 1 false (tM 3)),
 gM 16 14 false (.bin .eql (tM 15) (kM (0))),
 oM 17 (.pick (tM 14) (.const (.bool true)) (tM 16)),
 mM 18 17,
 gM 19 18 false (.load false 1 false (tM 3)),
 gM 20 18 false (.bin .gtr (tM 19) (kM (2000))),
 oM 21 (.pick (tM 18) (.const (.bool true)) (tM 20)),
 mM 22 21,
 gM 23 22 false (.fieldAddr 1 (tM 1)),
 gM 24 22 false (.load false 1 false (tM 23)),
 gM 25 22 false (.len 0 (tM 24)),
 gM 26 22 false (.load false 1 false (tM 3)),
 gM 27 22 false (.bin .neq (tM 25) (tM 26)),
 oM 28 (.pick (tM 22) (.const (.bool true)) (tM 27)),
 mM 29 28,
 gM 30 29 false (.fieldAddr 0 (tM 1)),
 gM 31 29 false (.load false 1 false (tM 30)),
 gM 32 29 false (.call 0 113 [(tM 31)]),
 gM 33 29 false (.un .not (tM 32)),
 oM 34 (.pick (tM 29) (.const (.bool true)) (tM 33))])
 (.cond (tM 34)
 (.seq (.ops [oM 2 (.mv (.const (.bool false)))])
 .ret)
 .skip))
 (.seq (.ops [oM 35 (.mkfn 114 [(tM 3)]),
 mM 4 35])
 (.seq (.seq (.ops [oM 36 (.fieldAddr 1 (tM 1)),
 oM 37 (.load false 1 false (tM 36)),
 oM 38 (.len 0 (tM 37)),
 oM 39 (.mv (kM (0)))])
 (.block 0
 (.loop
 (.seq (.ops [oM 40 (.bin .lss (tM 39) (tM 38))])
 (.seq (.cond (tM 40)
 .skip
 (.exit 0))
 (.seq (.block 1
 (.seq (.ops [mM 41 39,
 oM 42 (.indexAddr 1 (tM 37) (tM 39)),
 oM 43 (.load false 1 false (tM 42)),
 mM 5 41,
 mM 6 43])
 (.seq (.ops [mM 44 6,
 oM 45 (.len 0 (tM 44)),
 oM 46 (.fieldAddr 0 (tM 1)),
 oM 47 (.load false 1 false (tM 46)),
 oM 48 (.len 0 (tM 47)),
 oM 49 (.bin .neq (tM 45) (tM 48)),
 mM 50 49,
 gM 51 50 false (.fieldAddr 2 (tM 1)),
 gM 52 50 false (.load false 1 false (tM 51)),
 gM 53 50 false (.mv (tM 5)),
 gM 54 50 false (.indexAddr 1 (tM 52) (tM 53)),
 gM 55 50 false (.load false 1 false (tM 54)),
 gM 56 50 false (.bin .lss (tM 55) (kM ((-1)))),
 oM 57 (.pick (tM 50) (.const (.bool true)) (tM 56)),
 mM 58 57,
 gM 59 58 false (.mv (tM 6)),
 gM 60 58 false (.mv (tM 4)),
 gM 61 58 false (.call 0 40 [(tM 59),(tM 60)]),
 oM 62 (.pick (tM 58) (.const (.bool true)) (tM 61))])
 (.cond (tM 62)
 (.seq (.ops [oM 2 (.mv (.const (.bool false)))])
 .ret)
 .skip))))
 (.ops [oM 63 (.bin .add (tM 39) (kM (1))),
 mM 39 63])))))))
 (.seq (.ops [oM 2 (.mv (.const (.bool true)))])
 .ret))))))⟩
def gX:bN:=⟨[.tmp 2],
 (.seq (.ops [oM 2 (.mv (.const (.bool false)))])
 (.seq (.ops [oM 3 (.mv (kM (0)))])
 (.seq (.seq (.ops [mM 6 0,
 oM 7 (.len 0 (tM 6)),
 oM 8 (.mv (kM (0)))])
 (.block 0
 (.loop
 (.seq (.ops [oM 9 (.bin .lss (tM 8) (tM 7))])
 (.seq (.cond (tM 9)
 .skip
 (.exit 0))
 (.seq (.block 1
 (.seq (.ops [oM 10 (.indexAddr 1 (tM 6) (tM 8)),
 oM 11 (.load false 1 false (tM 10)),
 mM 5 11])
 (.seq (.seq (.ops [mM 12 5,
 oM 13 (.call 0 38 [(tM 12)]),
 mM 14 5,
 oM 15 (.call 0 37 [(tM 13),(tM 14)]),
 oM 16 (.un .not (tM 15))])
 (.cond (tM 16)
 (.seq (.ops [oM 2 (.mv (.const (.bool false)))])
 .ret)
 .skip))
 (.ops [mM 17 3,
 mM 18 5,
 oM 19 (.call 0 122 [(tM 18)]),
 oM 20 (.bin .add (tM 17) (tM 19)),
 mM 3 20]))))
 (.ops [oM 21 (.bin .add (tM 8) (kM (1))),
 mM 8 21])))))))
 (.seq (.ops [mM 22 0,
 oM 23 (.call 0 119 [(tM 22)]),
 oM 24 (.call 0 122 [(tM 23)]),
 mM 25 3,
 oM 26 (.bin .eql (tM 24) (tM 25)),
 mM 2 26])
 .ret))))⟩
def f8:bN:=⟨[.tmp 3],
 (.seq (.ops [oM 3 (.mv (.const (.bool false)))])
 (.seq (.ops [mM 4 0,
 oM 5 (.bin .lss (tM 4) (kM ((-1)))),
 mM 6 5,
 gM 7 6 false (.mv (tM 0)),
 gM 8 6 false (.load false 1 false (tM 1)),
 gM 9 6 false (.bin .geq (tM 7) (tM 8)),
 oM 10 (.pick (tM 6) (.const (.bool true)) (tM 9)),
 mM 3 10])
 .ret))⟩
def gW:bN:=⟨[.tmp 2],
 (.seq (.ops [oM 2 (.mv (.const (.rd 0 [] true)))])
 (.seq (.ops [mM 3 0,
 oM 4 (.call 0 125 [(tM 3)]),
 oM 5 (.call 0 38 [(tM 4)]),
 mM 2 5])
 .ret))⟩
def iB:bN:=⟨[.tmp 2],
 (.seq (.ops [oM 2 (.mv (kM (0)))])
 (.seq (.ops [oM 3 (.mv (kM (0)))])
 (.seq (.seq (.ops [mM 6 0,
 oM 7 (.call 0 38 [(tM 6)]),
 oM 8 (.len 0 (tM 7)),
 oM 9 (.mv (kM (0)))])
 (.block 0
 (.loop
 (.seq (.ops [oM 10 (.bin .lss (tM 9) (tM 8))])
 (.seq (.cond (tM 10)
 .skip
 (.exit 0))
 (.seq (.block 1
 (.seq (.ops [oM 11 (.indexAddr 2 (tM 7) (tM 9)),
 oM 12 (.load false 2 true (tM 11)),
 oM 5 (.alloc [(.int .i64 0),(.int .i64 0)]),
 nM (.store 2 (tM 5) (tM 12))])
 (.ops [mM 13 3,
 oM 14 (.fieldAddr 1 (tM 5)),
 oM 15 (.load false 1 false (tM 14)),
 oM 16 (.fieldAddr 0 (tM 5)),
 oM 17 (.load false 1 false (tM 16)),
 oM 18 (.bin .sub (tM 15) (tM 17)),
 oM 19 (.bin .add (tM 18) (kM (1))),
 oM 20 (.bin .add (tM 13) (tM 19)),
 mM 3 20])))
 (.ops [oM 21 (.bin .add (tM 9) (kM (1))),
 mM 9 21])))))))
 (.seq (.ops [mM 22 3,
 mM 2 22])
 .ret))))⟩
def fZ:bN:=⟨[.tmp 2],
 (.seq (.ops [oM 2 (.mv (.const (.rd 0 [] true)))])
 (.seq (.seq (.ops [mM 3 0,
 oM 4 (.eqN false (tM 3))])
 (.cond (tM 4)
 (.seq (.ops [oM 2 (.mv (.const (.rd 0 [] true)))])
 .ret)
 .skip))
 (.seq (.ops [oM 5 (.lit 1 0 [] []),
 mM 6 0,
 oM 7 (.append 1 (tM 5) (tM 6)),
 mM 2 7])
 .ret)))⟩
def bY:bN:=⟨[.tmp 2],
 (.seq (.ops [oM 2 (.mv (.const (.rd 0 [] true)))])
 (.seq (.seq (.ops [mM 3 0,
 oM 4 (.eqN false (tM 3))])
 (.cond (tM 4)
 (.seq (.ops [oM 2 (.mv (.const (.rd 0 [] true)))])
 .ret)
 .skip))
 (.seq (.ops [oM 5 (.lit 2 0 [] []),
 mM 6 0,
 oM 7 (.append 2 (tM 5) (tM 6)),
 mM 2 7])
 .ret)))⟩
def bT:bN:=⟨[.tmp 2],
 (.seq (.ops [oM 2 (.mv (.const (.rd 0 [] true)))])
 (.seq (.ops [oM 3 (.mv (kM (0)))])
 (.seq (.seq (.ops [mM 9 0,
 oM 10 (.len 0 (tM 9)),
 oM 11 (.mv (kM (0)))])
 (.block 0
 (.loop
 (.seq (.ops [oM 12 (.bin .lss (tM 11) (tM 10))])
 (.seq (.cond (tM 12)
 .skip
 (.exit 0))
 (.seq (.block 1
 (.seq (.ops [oM 13 (.indexAddr 1 (tM 9) (tM 11)),
 oM 14 (.load false 1 false (tM 13)),
 mM 5 14])
 (.seq (.ops [mM 15 3,
 mM 16 5,
 oM 17 (.len 0 (tM 16)),
 oM 18 (.bin .add (tM 15) (tM 17)),
 mM 3 18])
 (.seq (.ops [mM 19 3,
 oM 20 (.bin .lss (tM 19) (kM (0)))])
 (.cond (tM 20)
 (.ops [oM 21 (.stuck),
 nM (.stuck)])
 .skip)))))
 (.ops [oM 22 (.bin .add (tM 11) (kM (1))),
 mM 11 22])))))))
 (.seq (.ops [mM 23 3,
 oM 24 (.call 0 128 [(.const (.rd 0 [] true)),(tM 23)]),
 mM 6 24])
 (.seq (.seq (.ops [mM 25 0,
 oM 26 (.len 0 (tM 25)),
 oM 27 (.mv (kM (0)))])
 (.block 2
 (.loop
 (.seq (.ops [oM 28 (.bin .lss (tM 27) (tM 26))])
 (.seq (.cond (tM 28)
 .skip
 (.exit 2))
 (.seq (.block 3
 (.seq (.ops [oM 29 (.indexAddr 1 (tM 25) (tM 27)),
 oM 30 (.load false 1 false (tM 29)),
 mM 8 30])
 (.ops [mM 31 6,
 mM 32 8,
 oM 33 (.append 2 (tM 31) (tM 32)),
 mM 6 33])))
 (.ops [oM 34 (.bin .add (tM 27) (kM (1))),
 mM 27 34])))))))
 (.seq (.ops [mM 35 6,
 mM 2 35])
 .ret))))))⟩
def dB:bN:=⟨[.tmp 4],
 (.seq (.ops [oM 4 (.mv (.const (.rd 0 [] true)))])
 (.seq (.ops [mM 5 0,
 mM 6 1,
 oM 7 (.call 0 45 [(tM 5),(tM 6),(kM (8))]),
 mM 4 7])
 .ret))⟩
def dA:bN:=⟨[.tmp 4],
 (.seq (.ops [oM 4 (.mv (.const (.rd 0 [] true)))])
 (.seq (.ops [mM 5 0,
 mM 6 1,
 oM 7 (.call 0 45 [(tM 5),(tM 6),(kM (2))]),
 mM 4 7])
 .ret))⟩
def d9:bN:=⟨[.tmp 2],
 (.seq (.ops [oM 2 (.mv (.const (.rd 0 [] true)))])
 (.seq (.ops [oM 3 (.mv (.const (.rd 0 [] true)))])
 (.seq (.ops [oM 8 (.build [(.int .i64 0),(.int .i64 0)] [(0,1,(kM (0))),(1,1,(kM (1114111)))]),
 oM 9 (.lit 2 1 [(.int .i64 0),(.int .i64 0)] [(0,2,(tM 8))]),
 mM 4 9])
 (.seq (.seq (.ops [oM 5 (.mv (kM (0)))])
 (.block 0
 (.loop
 (.seq (.seq (.ops [mM 10 5,
 mM 11 0,
 oM 12 (.len 0 (tM 11)),
 oM 13 (.bin .lss (tM 10) (tM 12))])
 (.cond (tM 13)
 .skip
 (.exit 0)))
 (.seq (.block 1
 (.seq (.ops [oM 6 (.mv (.const (.rd 0 [] true)))])
 (.seq (.seq (.ops [oM 7 (.mv (kM (0)))])
 (.block 2
 (.loop
 (.seq (.seq (.ops [mM 16 7,
 mM 17 3,
 oM 18 (.len 0 (tM 17)),
 oM 19 (.bin .lss (tM 16) (tM 18))])
 (.cond (tM 19)
 .skip
 (.exit 2)))
 (.seq (.block 3
 (.seq (.ops [mM 22 6,
 mM 23 3,
 mM 24 7,
 oM 25 (.indexAddr 1 (tM 23) (tM 24)),
 oM 26 (.load false 1 false (tM 25)),
 mM 27 0,
 mM 28 5,
 oM 29 (.indexAddr 1 (tM 27) (tM 28)),
 oM 30 (.load false 1 false (tM 29)),
 oM 31 (.call 0 109 [(tM 26),(tM 30)]),
 oM 32 (.call 0 108 [(tM 22),(tM 31)]),
 mM 6 32])
 (.ops [mM 33 6,
 mM 34 3,
 mM 35 7,
 oM 36 (.indexAddr 1 (tM 34) (tM 35)),
 oM 37 (.load false 1 false (tM 36)),
 mM 38 0,
 mM 39 5,
 oM 40 (.indexAddr 1 (tM 38) (tM 39)),
 oM 41 (.load false 1 false (tM 40)),
 oM 42 (.call 0 110 [(tM 37),(tM 41)]),
 oM 43 (.call 0 108 [(tM 33),(tM 42)]),
 mM 6 43])))
 (.ops [mM 20 7,
 oM 21 (.bin .add (tM 20) (kM (1))),
 mM 7 21]))))))
 (.seq (.ops [mM 44 6,
 mM 45 4,
 mM 46 0,
 mM 47 5,
 oM 48 (.indexAddr 1 (tM 46) (tM 47)),
 oM 49 (.load false 1 false (tM 48)),
 oM 50 (.call 0 109 [(tM 45),(tM 49)]),
 oM 51 (.call 0 108 [(tM 44),(tM 50)]),
 mM 3 51])
 (.ops [mM 52 4,
 mM 53 0,
 mM 54 5,
 oM 55 (.indexAddr 1 (tM 53) (tM 54)),
 oM 56 (.load false 1 false (tM 55)),
 oM 57 (.call 0 110 [(tM 52),(tM 56)]),
 mM 4 57])))))
 (.ops [mM 14 5,
 oM 15 (.bin .add (tM 14) (kM (1))),
 mM 5 15]))))))
 (.seq (.ops [mM 58 3,
 oM 59 (.call 0 111 [(tM 58)]),
 mM 2 59])
 .ret)))))⟩
def dI:bN:=⟨[.tmp 4],
 (.seq (.ops [oM 4 (.mv (.const (.rd 0 [] true)))])
 (.seq (.seq (.ops [mM 6 1,
 oM 7 (.len 0 (tM 6)),
 oM 8 (.bin .eql (tM 7) (kM (0)))])
 (.cond (tM 8)
 (.seq (.ops [mM 9 0,
 mM 4 9])
 .ret)
 .skip))
 (.seq (.ops [oM 5 (.mv (.const (.rd 0 [] true)))])
 (.seq (.ops [mM 10 5,
 mM 11 0,
 oM 12 (.append 1 (tM 10) (tM 11)),
 mM 5 12])
 (.seq (.ops [mM 13 5,
 mM 14 1,
 oM 15 (.lit 1 1 [(.rd 0 [] true)] [(0,1,(tM 14))]),
 oM 16 (.append 1 (tM 13) (tM 15)),
 mM 5 16])
 (.seq (.ops [mM 17 5,
 mM 4 17])
 .ret))))))⟩
def du:bN:=⟨[.tmp 2],
 (.seq (.ops [oM 2 (.mv (.const (.rd 0 [] true)))])
 (.seq (.ops [oM 3 (.mv (.const (.rd 0 [] true)))])
 (.seq (.seq (.ops [oM 4 (.mv (kM (0)))])
 (.block 0
 (.loop
 (.seq (.seq (.ops [mM 7 4,
 mM 8 0,
 oM 9 (.len 0 (tM 8)),
 oM 10 (.bin .lss (tM 7) (tM 9))])
 (.cond (tM 10)
 .skip
 (.exit 0)))
 (.seq (.block 1
 (.seq (.ops [oM 5 (.mv (.const (.rd 0 [] true)))])
 (.seq (.ops [oM 6 (.mv (kM (0)))])
 (.seq (.block 2
 (.loop
 (.seq (.seq (.ops [mM 13 6,
 mM 14 3,
 oM 15 (.len 0 (tM 14)),
 oM 16 (.bin .lss (tM 13) (tM 15)),
 mM 17 16,
 gM 18 17 true (.mv (tM 3)),
 gM 19 17 true (.mv (tM 6)),
 gM 20 17 true (.indexAddr 1 (tM 18) (tM 19)),
 gM 21 17 true (.load false 1 false (tM 20)),
 gM 22 17 true (.indexAddr 2 (tM 21) (kM (0))),
 gM 23 17 true (.fieldAddr 0 (tM 22)),
 gM 24 17 true (.load false 1 false (tM 23)),
 gM 25 17 true (.mv (tM 0)),
 gM 26 17 true (.mv (tM 4)),
 gM 27 17 true (.indexAddr 1 (tM 25) (tM 26)),
 gM 28 17 true (.load false 1 false (tM 27)),
 gM 29 17 true (.indexAddr 2 (tM 28) (kM (0))),
 gM 30 17 true (.fieldAddr 0 (tM 29)),
 gM 31 17 true (.load false 1 false (tM 30)),
 gM 32 17 true (.bin .lss (tM 24) (tM 31)),
 oM 33 (.pick (tM 17) (tM 32) (.const (.bool false)))])
 (.cond (tM 33)
 .skip
 (.exit 2)))
 (.block 3
 (.seq (.ops [mM 34 5,
 mM 35 3,
 mM 36 6,
 oM 37 (.indexAddr 1 (tM 35) (tM 36)),
 oM 38 (.load false 1 false (tM 37)),
 oM 39 (.lit 1 1 [(.rd 0 [] true)] [(0,1,(tM 38))]),
 oM 40 (.append 1 (tM 34) (tM 39)),
 mM 5 40])
 (.ops [mM 41 6,
 oM 42 (.bin .add (tM 41) (kM (1))),
 mM 6 42]))))))
 (.seq (.ops [mM 43 5,
 mM 44 0,
 mM 45 4,
 oM 46 (.indexAddr 1 (tM 44) (tM 45)),
 oM 47 (.load false 1 false (tM 46)),
 oM 48 (.lit 1 1 [(.rd 0 [] true)] [(0,1,(tM 47))]),
 oM 49 (.append 1 (tM 43) (tM 48)),
 mM 5 49])
 (.seq (.ops [mM 50 5,
 mM 51 3,
 mM 52 6,
 oM 53 (.slice 1 (tM 51) (some (tM 52)) none none),
 oM 54 (.append 1 (tM 50) (tM 53)),
 mM 5 54])
 (.ops [mM 55 5,
 mM 3 55])))))))
 (.ops [mM 11 4,
 oM 12 (.bin .add (tM 11) (kM (1))),
 mM 4 12]))))))
 (.seq (.ops [mM 56 3,
 mM 2 56])
 .ret))))⟩
def dy:bN:=⟨[.tmp 4],
 (.seq (.ops [oM 4 (.mv (kM (0)))])
 (.seq (.seq (.ops [oM 5 (.mv (kM (0)))])
 (.block 0
 (.loop
 (.seq (.seq (.ops [mM 6 5,
 mM 7 0,
 oM 8 (.len 0 (tM 7)),
 oM 9 (.bin .lss (tM 6) (tM 8))])
 (.cond (tM 9)
 .skip
 (.exit 0)))
 (.seq (.block 1
 (.seq (.ops [mM 12 0,
 mM 13 5,
 oM 14 (.indexAddr 1 (tM 12) (tM 13)),
 oM 15 (.load false 1 false (tM 14)),
 mM 16 1,
 oM 17 (.call 0 31 [(tM 15),(tM 16)])])
 (.cond (tM 17)
 (.seq (.ops [mM 18 5,
 mM 4 18])
 .ret)
 .skip)))
 (.ops [mM 10 5,
 oM 11 (.bin .add (tM 10) (kM (1))),
 mM 5 11]))))))
 (.seq (.ops [oM 4 (.mv (kM ((-1))))])
 .ret)))⟩
def dx:bN:=⟨[.tmp 2],
 (.seq (.ops [oM 1 (.box (tM 0)),
 oM 2 (.mv (.const (.bool false)))])
 (.seq (.ops [oM 8 (.fieldAddr 2 (tM 1)),
 oM 9 (.load false 1 false (tM 8)),
 oM 10 (.len 0 (tM 9)),
 mM 3 10])
 (.seq (.seq (.ops [oM 11 (.fieldAddr 0 (tM 1)),
 oM 12 (.load false 1 false (tM 11)),
 oM 13 (.len 0 (tM 12)),
 oM 14 (.bin .gtr (tM 13) (kM (2000))),
 mM 15 14,
 gM 16 15 false (.mv (tM 3)),
 gM 17 15 false (.bin .lss (tM 16) (kM (1))),
 oM 18 (.pick (tM 15) (.const (.bool true)) (tM 17)),
 mM 19 18,
 gM 20 19 false (.mv (tM 3)),
 gM 21 19 false (.bin .gtr (tM 20) (kM (2000))),
 oM 22 (.pick (tM 19) (.const (.bool true)) (tM 21)),
 mM 23 22,
 gM 24 23 false (.fieldAddr 1 (tM 1)),
 gM 25 23 false (.load false 1 false (tM 24)),
 gM 26 23 false (.len 0 (tM 25)),
 gM 27 23 false (.mv (tM 3)),
 gM 28 23 false (.bin .neq (tM 26) (tM 27)),
 oM 29 (.pick (tM 23) (.const (.bool true)) (tM 28))])
 (.cond (tM 29)
 (.seq (.ops [oM 2 (.mv (.const (.bool false)))])
 .ret)
 .skip))
 (.seq (.seq (.ops [oM 4 (.mv (kM (0)))])
 (.block 0
 (.loop
 (.seq (.seq (.ops [mM 30 4,
 oM 31 (.fieldAddr 0 (tM 1)),
 oM 32 (.load false 1 false (tM 31)),
 oM 33 (.len 0 (tM 32)),
 oM 34 (.bin .lss (tM 30) (tM 33))])
 (.cond (tM 34)
 .skip
 (.exit 0)))
 (.seq (.block 1
 (.seq (.seq (.ops [oM 37 (.fieldAddr 0 (tM 1)),
 oM 38 (.load false 1 false (tM 37)),
 mM 39 4,
 oM 40 (.indexAddr 1 (tM 38) (tM 39)),
 oM 41 (.load false 1 false (tM 40)),
 oM 42 (.call 1 33 [(tM 41)]),
 oM 43 (.fieldAddr 0 (tM 1)),
 oM 44 (.load false 1 false (tM 43)),
 mM 45 4,
 oM 46 (.indexAddr 1 (tM 44) (tM 45)),
 oM 47 (.load false 1 false (tM 46)),
 oM 48 (.call 0 32 [(tM 42),(tM 47)]),
 oM 49 (.un .not (tM 48))])
 (.cond (tM 49)
 (.seq (.ops [oM 2 (.mv (.const (.bool false)))])
 .ret)
 .skip))
 (.seq (.ops [oM 5 (.mv (kM (0)))])
 (.block 2
 (.loop
 (.seq (.seq (.ops [mM 50 5,
 mM 51 4,
 oM 52 (.bin .lss (tM 50) (tM 51))])
 (.cond (tM 52)
 .skip
 (.exit 2)))
 (.seq (.block 3
 (.seq (.ops [oM 55 (.fieldAddr 0 (tM 1)),
 oM 56 (.load false 1 false (tM 55)),
 mM 57 4,
 oM 58 (.indexAddr 1 (tM 56) (tM 57)),
 oM 59 (.load false 1 false (tM 58)),
 oM 60 (.fieldAddr 0 (tM 1)),
 oM 61 (.load false 1 false (tM 60)),
 mM 62 5,
 oM 63 (.indexAddr 1 (tM 61) (tM 62)),
 oM 64 (.load false 1 false (tM 63)),
 oM 65 (.call 0 109 [(tM 59),(tM 64)]),
 oM 66 (.len 0 (tM 65)),
 oM 67 (.bin .gtr (tM 66) (kM (0)))])
 (.cond (tM 67)
 (.seq (.ops [oM 2 (.mv (.const (.bool false)))])
 .ret)
 .skip)))
 (.ops [mM 53 5,
 oM 54 (.bin .add (tM 53) (kM (1))),
 mM 5 54]))))))))
 (.ops [mM 35 4,
 oM 36 (.bin .add (tM 35) (kM (1))),
 mM 4 36]))))))
 (.seq (.seq (.ops [oM 6 (.mv (kM (0)))])
 (.block 4
 (.loop
 (.seq (.seq (.ops [mM 68 6,
 mM 69 3,
 oM 70 (.bin .lss (tM 68) (tM 69))])
 (.cond (tM 70)
 .skip
 (.exit 4)))
 (.seq (.block 5
 (.seq (.seq (.ops [oM 73 (.fieldAddr 1 (tM 1)),
 oM 74 (.load false 1 false (tM 73)),
 mM 75 6,
 oM 76 (.indexAddr 1 (tM 74) (tM 75)),
 oM 77 (.load false 1 false (tM 76)),
 oM 78 (.len 0 (tM 77)),
 oM 79 (.fieldAddr 0 (tM 1)),
 oM 80 (.load false 1 false (tM 79)),
 oM 81 (.len 0 (tM 80)),
 oM 82 (.bin .neq (tM 78) (tM 81)),
 mM 83 82,
 gM 84 83 false (.fieldAddr 2 (tM 1)),
 gM 85 83 false (.load false 1 false (tM 84)),
 gM 86 83 false (.mv (tM 6)),
 gM 87 83 false (.indexAddr 1 (tM 85) (tM 86)),
 gM 88 83 false (.load false 1 false (tM 87)),
 gM 89 83 false (.bin .lss (tM 88) (kM ((-1)))),
 oM 90 (.pick (tM 83) (.const (.bool true)) (tM 89))])
 (.cond (tM 90)
 (.seq (.ops [oM 2 (.mv (.const (.bool false)))])
 .ret)
 .skip))
 (.seq (.ops [oM 7 (.mv (kM (0)))])
 (.block 6
 (.loop
 (.seq (.seq (.ops [mM 91 7,
 oM 92 (.fieldAddr 1 (tM 1)),
 oM 93 (.load false 1 false (tM 92)),
 mM 94 6,
 oM 95 (.indexAddr 1 (tM 93) (tM 94)),
 oM 96 (.load false 1 false (tM 95)),
 oM 97 (.len 0 (tM 96)),
 oM 98 (.bin .lss (tM 91) (tM 97))])
 (.cond (tM 98)
 .skip
 (.exit 6)))
 (.seq (.block 7
 (.seq (.ops [oM 101 (.fieldAddr 1 (tM 1)),
 oM 102 (.load false 1 false (tM 101)),
 mM 103 6,
 oM 104 (.indexAddr 1 (tM 102) (tM 103)),
 oM 105 (.load false 1 false (tM 104)),
 mM 106 7,
 oM 107 (.indexAddr 1 (tM 105) (tM 106)),
 oM 108 (.load false 1 false (tM 107)),
 oM 109 (.bin .lss (tM 108) (kM ((-1)))),
 mM 110 109,
 gM 111 110 false (.fieldAddr 1 (tM 1)),
 gM 112 110 false (.load false 1 false (tM 111)),
 gM 113 110 false (.mv (tM 6)),
 gM 114 110 false (.indexAddr 1 (tM 112) (tM 113)),
 gM 115 110 false (.load false 1 false (tM 114)),
 gM 116 110 false (.mv (tM 7)),
 gM 117 110 false (.indexAddr 1 (tM 115) (tM 116)),
 gM 118 110 false (.load false 1 false (tM 117)),
 gM 119 110 false (.mv (tM 3)),
 gM 120 110 false (.bin .geq (tM 118) (tM 119)),
 oM 121 (.pick (tM 110) (.const (.bool true)) (tM 120))])
 (.cond (tM 121)
 (.seq (.ops [oM 2 (.mv (.const (.bool false)))])
 .ret)
 .skip)))
 (.ops [mM 99 7,
 oM 100 (.bin .add (tM 99) (kM (1))),
 mM 7 100]))))))))
 (.ops [mM 71 6,
 oM 72 (.bin .add (tM 71) (kM (1))),
 mM 6 72]))))))
 (.seq (.ops [oM 2 (.mv (.const (.bool true)))])
 .ret))))))⟩
def dt:bN:=⟨[.tmp 4,.tmp 5],
 (.seq (.ops [oM 2 (.box (tM 0)),
 oM 4 (.mv (kM (0))),
 oM 5 (.mv (kM (0)))])
 (.seq (.ops [oM 6 (.mv (kM (0)))])
 (.seq (.ops [oM 7 (.mv (kM ((-1))))])
 (.seq (.ops [oM 8 (.mv (kM (0)))])
 (.seq (.seq (.ops [oM 11 (.load false 3 true (tM 2)),
 oM 12 (.call 0 157 [(tM 11)]),
 oM 13 (.un .not (tM 12))])
 (.cond (tM 13)
 (.seq (.ops [oM 4 (.mv (kM (0))),
 oM 5 (.mv (kM ((-1))))])
 .ret)
 .skip))
 (.seq (.seq (.ops [oM 9 (.mv (kM (0)))])
 (.block 0
 (.loop
 (.seq (.seq (.ops [mM 14 9,
 mM 15 1,
 oM 16 (.len 0 (tM 15)),
 oM 17 (.bin .lss (tM 14) (tM 16))])
 (.cond (tM 17)
 .skip
 (.exit 0)))
 (.seq (.block 1
 (.seq (.ops [oM 20 (.fieldAddr 0 (tM 2)),
 oM 21 (.load false 1 false (tM 20)),
 mM 22 1,
 mM 23 9,
 oM 24 (.indexAddr 1 (tM 22) (tM 23)),
 oM 25 (.load false 1 false (tM 24)),
 oM 26 (.call 0 161 [(tM 21),(tM 25)]),
 mM 10 26])
 (.seq (.seq (.ops [mM 27 10,
 oM 28 (.bin .lss (tM 27) (kM (0)))])
 (.cond (tM 28)
 (.exit 0)
 .skip))
 (.seq (.ops [oM 29 (.fieldAddr 1 (tM 2)),
 oM 30 (.load false 1 false (tM 29)),
 mM 31 8,
 oM 32 (.indexAddr 1 (tM 30) (tM 31)),
 oM 33 (.load false 1 false (tM 32)),
 mM 34 10,
 oM 35 (.indexAddr 1 (tM 33) (tM 34)),
 oM 36 (.load false 1 false (tM 35)),
 mM 8 36])
 (.seq (.seq (.ops [mM 37 8,
 oM 38 (.bin .lss (tM 37) (kM (0)))])
 (.cond (tM 38)
 (.exit 0)
 .skip))
 (.seq (.ops [oM 39 (.fieldAddr 2 (tM 2)),
 oM 40 (.load false 1 false (tM 39)),
 mM 41 8,
 oM 42 (.indexAddr 1 (tM 40) (tM 41)),
 oM 43 (.load false 1 false (tM 42)),
 oM 44 (.bin .geq (tM 43) (kM (0)))])
 (.cond (tM 44)
 (.seq (.ops [mM 45 9,
 oM 46 (.bin .add (tM 45) (kM (1))),
 mM 6 46])
 (.ops [oM 47 (.fieldAddr 2 (tM 2)),
 oM 48 (.load false 1 false (tM 47)),
 mM 49 8,
 oM 50 (.indexAddr 1 (tM 48) (tM 49)),
 oM 51 (.load false 1 false (tM 50)),
 mM 7 51]))
 .skip)))))))
 (.ops [mM 18 9,
 oM 19 (.bin .add (tM 18) (kM (1))),
 mM 9 19]))))))
 (.seq (.ops [mM 52 6,
 mM 53 7,
 mM 4 52,
 mM 5 53])
 .ret)))))))⟩
def dL:bN:=⟨[.cell 8 3 true],
 (.seq (.ops [oM 8 (.alloc [(.rd 0 [] true),(.rd 0 [] true),(.rd 0 [] true)])])
 (.seq (.ops [oM 9 (.mv (.const (.rd 0 [] true)))])
 (.seq (.seq (.ops [oM 10 (.mv (kM (0)))])
 (.block 0
 (.loop
 (.seq (.seq (.ops [mM 19 10,
 mM 20 0,
 oM 21 (.len 0 (tM 20)),
 oM 22 (.bin .lss (tM 19) (tM 21)),
 mM 23 22,
 gM 24 23 true (.mv (tM 10)),
 gM 25 23 true (.bin .lss (tM 24) (kM (4))),
 oM 26 (.pick (tM 23) (tM 25) (.const (.bool false)))])
 (.cond (tM 26)
 .skip
 (.exit 0)))
 (.seq (.block 1
 (.seq (.ops [mM 29 0,
 mM 30 10,
 oM 31 (.indexAddr 1 (tM 29) (tM 30)),
 oM 32 (.load false 1 false (tM 31)),
 oM 33 (.len 0 (tM 32)),
 oM 34 (.bin .lss (tM 33) (kM (8)))])
 (.cond (tM 34)
 (.ops [mM 35 9,
 mM 36 0,
 mM 37 10,
 oM 38 (.indexAddr 1 (tM 36) (tM 37)),
 oM 39 (.load false 1 false (tM 38)),
 oM 40 (.call 0 22 [(tM 39)]),
 oM 41 (.lit 1 1 [(.rd 0 [] true)] [(0,1,(tM 40))]),
 oM 42 (.append 1 (tM 35) (tM 41)),
 mM 9 42])
 .skip)))
 (.ops [mM 27 10,
 oM 28 (.bin .add (tM 27) (kM (1))),
 mM 10 28]))))))
 (.seq (.ops [mM 43 9,
 oM 44 (.call 0 97 [(tM 43)]),
 oM 45 (.build [(.rd 0 [] true),(.rd 0 [] true),(.rd 0 [] true)] [(0,1,(tM 44))]),
 oM 11 (.alloc [(.rd 0 [] true),(.rd 0 [] true),(.rd 0 [] true)]),
 nM (.store 3 (tM 11) (tM 45))])
 (.seq (.ops [mM 46 1,
 oM 47 (.bin .rem (tM 46) (.const (.int .u8 9))),
 oM 48 (.conv .i64 (tM 47)),
 oM 49 (.bin .add (kM (1)) (tM 48)),
 mM 12 49])
 (.seq (.ops [oM 13 (.mv (kM (0)))])
 (.seq (.seq (.ops [oM 14 (.mv (kM (0)))])
 (.block 2
 (.loop
 (.seq (.seq (.ops [mM 50 14,
 mM 51 12,
 oM 52 (.bin .lss (tM 50) (tM 51))])
 (.cond (tM 52)
 .skip
 (.exit 2)))
 (.seq (.block 3
 (.seq (.ops [oM 15 (.mv (.const (.rd 0 [] true)))])
 (.seq (.seq (.ops [oM 16 (.mv (kM (0)))])
 (.block 4
 (.loop
 (.seq (.seq (.ops [mM 55 16,
 oM 56 (.fieldAddr 0 (tM 11)),
 oM 57 (.load false 1 false (tM 56)),
 oM 58 (.len 0 (tM 57)),
 oM 59 (.bin .lss (tM 55) (tM 58))])
 (.cond (tM 59)
 .skip
 (.exit 4)))
 (.seq (.block 5
 (.seq (.ops [oM 17 (.mv (kM (0)))])
 (.seq (.seq (.ops [mM 62 2,
 oM 63 (.len 0 (tM 62)),
 oM 64 (.bin .gtr (tM 63) (kM (0)))])
 (.cond (tM 64)
 (.ops [mM 65 2,
 mM 66 13,
 mM 67 2,
 oM 68 (.len 0 (tM 67)),
 oM 69 (.bin .rem (tM 66) (tM 68)),
 oM 70 (.indexAddr 1 (tM 65) (tM 69)),
 oM 71 (.load false 1 false (tM 70)),
 oM 72 (.conv .i64 (tM 71)),
 mM 73 12,
 oM 74 (.bin .rem (tM 72) (tM 73)),
 oM 75 (.mx [(tM 74),(kM ((-1)))]),
 mM 17 75])
 .skip))
 (.seq (.ops [mM 76 15,
 mM 77 17,
 oM 78 (.lit 1 1 [(.int .i64 0)] [(0,1,(tM 77))]),
 oM 79 (.append 1 (tM 76) (tM 78)),
 mM 15 79])
 (.ops [mM 80 13,
 oM 81 (.bin .add (tM 80) (kM (1))),
 mM 13 81])))))
 (.ops [mM 60 16,
 oM 61 (.bin .add (tM 60) (kM (1))),
 mM 16 61]))))))
 (.seq (.ops [oM 18 (.mv (kM ((-1))))])
 (.seq (.seq (.ops [mM 82 14,
 mM 83 3,
 oM 84 (.len 0 (tM 83)),
 oM 85 (.bin .lss (tM 82) (tM 84))])
 (.cond (tM 85)
 (.ops [mM 86 3,
 mM 87 14,
 oM 88 (.indexAddr 1 (tM 86) (tM 87)),
 oM 89 (.load false 1 false (tM 88)),
 oM 90 (.conv .i64 (tM 89)),
 oM 91 (.bin .rem (tM 90) (kM (4))),
 oM 92 (.mx [(tM 91),(kM ((-1)))]),
 mM 18 92])
 .skip))
 (.seq (.ops [oM 93 (.fieldAddr 1 (tM 11)),
 oM 94 (.load false 1 false (tM 93)),
 mM 95 15,
 oM 96 (.lit 1 1 [(.rd 0 [] true)] [(0,1,(tM 95))]),
 oM 97 (.append 1 (tM 94) (tM 96)),
 oM 98 (.fieldAddr 1 (tM 11)),
 nM (.store 1 (tM 98) (tM 97))])
 (.ops [oM 99 (.fieldAddr 2 (tM 11)),
 oM 100 (.load false 1 false (tM 99)),
 mM 101 18,
 oM 102 (.lit 1 1 [(.int .i64 0)] [(0,1,(tM 101))]),
 oM 103 (.append 1 (tM 100) (tM 102)),
 oM 104 (.fieldAddr 2 (tM 11)),
 nM (.store 1 (tM 104) (tM 103))])))))))
 (.ops [mM 53 14,
 oM 54 (.bin .add (tM 53) (kM (1))),
 mM 14 54]))))))
 (.seq (.ops [oM 105 (.load false 3 true (tM 11)),
 nM (.store 3 (tM 8) (tM 105))])
 .ret))))))))⟩
structure cJ (Φ:Lib):Prop where
 f118:Φ 118=some (.code jG)
 f124:Φ 124=some (.code fA)
 f127:Φ 127=some (.code ff)
 f140:Φ 140=some (.code fe)
 f146:Φ 146=some (.code eM)
 f95:Φ 95=some (.code iF)
 f101:Φ 101=some (.code fT)
 f102:Φ 102=some (.code gF)
 f103:Φ 103=some (.code dY)
 f104:Φ 104=some (.code dZ)
 f105:Φ 105=some (.code ei)
 f107:Φ 107=some (.code eE)
 f115:Φ 115=some (.code gE)
 f117:Φ 117=some (.code eh)
 f123:Φ 123=some (.code eD)
 f100:Φ 100=some (.code gY)
 f113:Φ 113=some (.code gX)
 f114:Φ 114=some (.code f8)
 f119:Φ 119=some (.code gW)
 f122:Φ 122=some (.code iB)
 f116:Φ 116=some (.code fZ)
 f106:Φ 106=some (.code bY)
 f125:Φ 125=some (.code bT)
 f109:Φ 109=some (.code dB)
 f110:Φ 110=some (.code dA)
 f97:Φ 97=some (.code d9)
 f108:Φ 108=some (.code dI)
 f111:Φ 111=some (.code du)
 f161:Φ 161=some (.code dy)
 f157:Φ 157=some (.code dx)
 f158:Φ 158=some (.code dt)
 f156:Φ 156=some (.code dL)
end
section
open Go
structure Lk (Φ:Lib):Prop where
end
end Go.Proofs.YtlnobeojgifojaaGreatDoor
