/- The abstract machine's code of some functions. -/
import Derived.Test.YtlnobeojgifojaaGreatDoorB2
namespace Go.Proofs.YtlnobeojgifojaaGreatDoor
section
open Go
def gv:bN:=⟨[.tmp 2],
 (.seq (.ops [oM 2 (.mv (.const (.rd 0 [] true)))])
 (.seq (.seq (.ops [mM 3 0,
 oM 4 (.bin .lss (tM 3) (kM (0))),
 mM 5 4,
 gM 6 5 false (.mv (tM 0)),
 gM 7 5 false (.bin .gtr (tM 6) (kM (1114111))),
 oM 8 (.pick (tM 5) (.const (.bool true)) (tM 7)),
 mM 9 8,
 gM 10 9 false (.mv (tM 0)),
 gM 11 9 false (.conv .i32 (tM 10)),
 gM 12 9 false (.call 0 294 [(tM 11)]),
 gM 13 9 false (.un .not (tM 12)),
 oM 14 (.pick (tM 9) (.const (.bool true)) (tM 13))])
 (.cond (tM 14)
 (.seq (.ops [oM 2 (.mv (.const (.rd 0 [] true)))])
 .ret)
 .skip))
 (.seq (.ops [mM 15 0,
 oM 16 (.conv .i32 (tM 15)),
 oM 17 (.call 0 295 [(.const (.rd 0 [] true)),(tM 16)]),
 mM 2 17])
 .ret)))⟩
def gu:bN:=⟨[.tmp 2],
 (.seq (.ops [oM 2 (.mv (.const (.bool false)))])
 (.seq (.block 0
 (.seq (.ops [mM 4 0,
 oM 5 (.bin .leq (.const (.int .i32 0)) (tM 4)),
 mM 6 5,
 gM 7 6 true (.mv (tM 0)),
 gM 8 6 true (.bin .lss (tM 7) (.const (.int .i32 55296))),
 oM 9 (.pick (tM 6) (tM 8) (.const (.bool false))),
 mM 3 9])
 (.cond (tM 3)
 (.seq (.ops [oM 2 (.mv (.const (.bool true)))])
 .ret)
 (.seq (.ops [mM 11 0,
 oM 12 (.bin .lss (.const (.int .i32 57343)) (tM 11)),
 mM 13 12,
 gM 14 13 true (.mv (tM 0)),
 gM 15 13 true (.bin .leq (tM 14) (.const (.int .i32 1114111))),
 oM 16 (.pick (tM 13) (tM 15) (.const (.bool false))),
 mM 10 16])
 (.cond (tM 10)
 (.seq (.ops [oM 2 (.mv (.const (.bool true)))])
 .ret)
 .skip)))))
 (.seq (.ops [oM 2 (.mv (.const (.bool false)))])
 .ret)))⟩
def fY:bN:=⟨[.tmp 4],
 (.seq (.ops [oM 4 (.mv (.const (.rd 0 [] true)))])
 (.seq (.seq (.ops [mM 5 1,
 oM 6 (.conv .u32 (tM 5)),
 oM 7 (.bin .leq (tM 6) (.const (.int .u32 127)))])
 (.cond (tM 7)
 (.seq (.ops [mM 8 0,
 mM 9 1,
 oM 10 (.conv .u8 (tM 9)),
 oM 11 (.lit 1 1 [(.int .u8 0)] [(0,1,(tM 10))]),
 oM 12 (.append 1 (tM 8) (tM 11)),
 mM 4 12])
 .ret)
 .skip))
 (.seq (.ops [mM 13 0,
 mM 14 1,
 oM 15 (.call 0 307 [(tM 13),(tM 14)]),
 mM 4 15])
 .ret)))⟩
def d8:bN:=⟨[.tmp 4],
 (.seq (.ops [oM 4 (.mv (.const (.rd 0 [] true)))])
 (.seq (.ops [mM 6 1,
 oM 7 (.conv .u32 (tM 6)),
 mM 5 7])
 (.block 0
 (.seq (.ops [mM 12 5,
 oM 13 (.bin .leq (tM 12) (.const (.int .u32 2047))),
 mM 11 13])
 (.cond (tM 11)
 (.seq (.ops [mM 14 0,
 mM 15 1,
 oM 16 (.bin .shr (tM 15) (.const (.int .u64 6))),
 oM 17 (.conv .u8 (tM 16)),
 oM 18 (.bin .or (.const (.int .u8 192)) (tM 17)),
 mM 19 1,
 oM 20 (.conv .u8 (tM 19)),
 oM 21 (.bin .and (tM 20) (.const (.int .u8 63))),
 oM 22 (.bin .or (.const (.int .u8 128)) (tM 21)),
 oM 23 (.lit 1 2 [(.int .u8 0),(.int .u8 0)] [(0,1,(tM 18)),(1,1,(tM 22))]),
 oM 24 (.append 1 (tM 14) (tM 23)),
 mM 4 24])
 .ret)
 (.seq (.seq (.ops [mM 26 5,
 oM 27 (.bin .lss (tM 26) (.const (.int .u32 55296))),
 mM 25 27])
 (.cond (tM 25)
 .skip
 (.ops [mM 28 5,
 oM 29 (.bin .lss (.const (.int .u32 57343)) (tM 28)),
 mM 30 29,
 gM 31 30 true (.mv (tM 5)),
 gM 32 30 true (.bin .leq (tM 31) (.const (.int .u32 65535))),
 oM 33 (.pick (tM 30) (tM 32) (.const (.bool false))),
 mM 25 33])))
 (.cond (tM 25)
 (.seq (.ops [mM 34 0,
 mM 35 1,
 oM 36 (.bin .shr (tM 35) (.const (.int .u64 12))),
 oM 37 (.conv .u8 (tM 36)),
 oM 38 (.bin .or (.const (.int .u8 224)) (tM 37)),
 mM 39 1,
 oM 40 (.bin .shr (tM 39) (.const (.int .u64 6))),
 oM 41 (.conv .u8 (tM 40)),
 oM 42 (.bin .and (tM 41) (.const (.int .u8 63))),
 oM 43 (.bin .or (.const (.int .u8 128)) (tM 42)),
 mM 44 1,
 oM 45 (.conv .u8 (tM 44)),
 oM 46 (.bin .and (tM 45) (.const (.int .u8 63))),
 oM 47 (.bin .or (.const (.int .u8 128)) (tM 46)),
 oM 48 (.lit 1 3 [(.int .u8 0),(.int .u8 0),(.int .u8 0)] [(0,1,(tM 38)),(1,1,(tM 43)),(2,1,(tM 47))]),
 oM 49 (.append 1 (tM 34) (tM 48)),
 mM 4 49])
 .ret)
 (.seq (.ops [mM 51 5,
 oM 52 (.bin .gtr (tM 51) (.const (.int .u32 65535))),
 mM 53 52,
 gM 54 53 true (.mv (tM 5)),
 gM 55 53 true (.bin .leq (tM 54) (.const (.int .u32 1114111))),
 oM 56 (.pick (tM 53) (tM 55) (.const (.bool false))),
 mM 50 56])
 (.cond (tM 50)
 (.seq (.ops [mM 57 0,
 mM 58 1,
 oM 59 (.bin .shr (tM 58) (.const (.int .u64 18))),
 oM 60 (.conv .u8 (tM 59)),
 oM 61 (.bin .or (.const (.int .u8 240)) (tM 60)),
 mM 62 1,
 oM 63 (.bin .shr (tM 62) (.const (.int .u64 12))),
 oM 64 (.conv .u8 (tM 63)),
 oM 65 (.bin .and (tM 64) (.const (.int .u8 63))),
 oM 66 (.bin .or (.const (.int .u8 128)) (tM 65)),
 mM 67 1,
 oM 68 (.bin .shr (tM 67) (.const (.int .u64 6))),
 oM 69 (.conv .u8 (tM 68)),
 oM 70 (.bin .and (tM 69) (.const (.int .u8 63))),
 oM 71 (.bin .or (.const (.int .u8 128)) (tM 70)),
 mM 72 1,
 oM 73 (.conv .u8 (tM 72)),
 oM 74 (.bin .and (tM 73) (.const (.int .u8 63))),
 oM 75 (.bin .or (.const (.int .u8 128)) (tM 74)),
 oM 76 (.lit 1 4 [(.int .u8 0),(.int .u8 0),(.int .u8 0),(.int .u8 0)] [(0,1,(tM 61)),(1,1,(tM 66)),(2,1,(tM 71)),(3,1,(tM 75))]),
 oM 77 (.append 1 (tM 57) (tM 76)),
 mM 4 77])
 .ret)
 (.seq (.ops [mM 8 0,
 oM 9 (.lit 1 3 [(.int .u8 0),(.int .u8 0),(.int .u8 0)] [(0,1,(.const (.int .u8 239))),(1,1,(.const (.int .u8 191))),(2,1,(.const (.int .u8 189)))]),
 oM 10 (.append 1 (tM 8) (tM 9)),
 mM 4 10])
 .ret))))))))))⟩
def f0:bN:=⟨[.tmp 0],
 (.seq (.ops [oM 0 (.mv (.const (.rd 0 [] true)))])
 (.seq (.ops [oM 1 (.lit 1 4 [(.int .i64 0),(.int .i64 0),(.int .i64 0),(.int .i64 0)] [(0,1,(kM (127))),(1,1,(kM (2047))),(2,1,(kM (65535))),(3,1,(kM (1114111)))]),
 mM 0 1])
 .ret))⟩
def gB:bN:=⟨[.tmp 2],
 (.seq (.ops [oM 1 (.box (tM 0)),
 oM 2 (.mv (kM (0)))])
 (.seq (.ops [oM 6 (.fieldAddr 0 (tM 1)),
 oM 7 (.load false 1 false (tM 6)),
 oM 8 (.call 0 277 [(tM 7)]),
 oM 9 (.len 0 (tM 8)),
 mM 3 9])
 (.seq (.seq (.ops [oM 4 (.mv (kM (1)))])
 (.block 0
 (.loop
 (.seq (.seq (.ops [mM 10 4,
 mM 11 3,
 oM 12 (.bin .lss (tM 10) (tM 11))])
 (.cond (tM 12)
 .skip
 (.exit 0)))
 (.seq (.block 1
 (.seq (.ops [mM 15 4,
 oM 16 (.bin .mul (kM (6)) (tM 15)),
 oM 17 (.bin .shl (kM (1)) (tM 16)),
 oM 18 (.bin .sub (tM 17) (kM (1))),
 mM 5 18])
 (.seq (.seq (.ops [oM 19 (.fieldAddr 0 (tM 1)),
 oM 20 (.load false 1 false (tM 19)),
 mM 21 5,
 oM 22 (.bin .andNot (tM 20) (tM 21)),
 oM 23 (.fieldAddr 1 (tM 1)),
 oM 24 (.load false 1 false (tM 23)),
 mM 25 5,
 oM 26 (.bin .andNot (tM 24) (tM 25)),
 oM 27 (.bin .eql (tM 22) (tM 26))])
 (.cond (tM 27)
 (.exit 1)
 .skip))
 (.block 2
 (.seq (.ops [oM 29 (.fieldAddr 0 (tM 1)),
 oM 30 (.load false 1 false (tM 29)),
 mM 31 5,
 oM 32 (.bin .and (tM 30) (tM 31)),
 oM 33 (.bin .neq (tM 32) (kM (0))),
 mM 28 33])
 (.cond (tM 28)
 (.seq (.ops [oM 34 (.fieldAddr 0 (tM 1)),
 oM 35 (.load false 1 false (tM 34)),
 mM 36 5,
 oM 37 (.bin .or (tM 35) (tM 36)),
 oM 38 (.bin .add (tM 37) (kM (1))),
 mM 2 38])
 .ret)
 (.seq (.ops [oM 40 (.fieldAddr 1 (tM 1)),
 oM 41 (.load false 1 false (tM 40)),
 mM 42 5,
 oM 43 (.bin .and (tM 41) (tM 42)),
 mM 44 5,
 oM 45 (.bin .neq (tM 43) (tM 44)),
 mM 39 45])
 (.cond (tM 39)
 (.seq (.ops [oM 46 (.fieldAddr 1 (tM 1)),
 oM 47 (.load false 1 false (tM 46)),
 mM 48 5,
 oM 49 (.bin .andNot (tM 47) (tM 48)),
 mM 2 49])
 .ret)
 .skip))))))))
 (.ops [mM 13 4,
 oM 14 (.bin .add (tM 13) (kM (1))),
 mM 4 14]))))))
 (.seq (.ops [oM 2 (.mv (kM (0)))])
 .ret))))⟩
def gC:bN:=⟨[.tmp 2],
 (.seq (.ops [oM 1 (.box (tM 0)),
 oM 2 (.mv (.const .nilf))])
 (.seq (.ops [oM 3 (.mkfn 290 [(tM 1)]),
 mM 2 3])
 .ret))⟩
def fS:bN:=⟨[],
 (.seq (.ops [oM 7 (.load false 1 false (tM 1)),
 oM 8 (.call 0 106 [(tM 7)]),
 mM 3 8])
 (.seq (.ops [mM 9 3,
 oM 10 (.call 0 291 [(tM 9)])])
 (.block 0
 (.loop
 (.seq (.seq (.ops [mM 11 3,
 oM 12 (.len 0 (tM 11)),
 oM 13 (.bin .gtr (tM 12) (kM (0)))])
 (.cond (tM 13)
 .skip
 (.exit 0)))
 (.block 1
 (.seq (.ops [mM 14 3,
 oM 15 (.len 0 (tM 14)),
 oM 16 (.bin .sub (tM 15) (kM (1))),
 mM 4 16])
 (.seq (.ops [mM 17 3,
 mM 18 4,
 oM 19 (.indexAddr 2 (tM 17) (tM 18)),
 oM 20 (.load false 2 true (tM 19)),
 oM 5 (.alloc [(.int .i64 0),(.int .i64 0)]),
 nM (.store 2 (tM 5) (tM 20))])
 (.seq (.ops [mM 21 3,
 mM 22 4,
 mM 23 4,
 oM 24 (.slice 2 (tM 21) none (some (tM 22)) (some (tM 23))),
 mM 3 24])
 (.seq (.seq (.ops [oM 25 (.load false 2 true (tM 5)),
 oM 26 (.call 0 292 [(tM 25)]),
 mM 6 26])
 (.seq (.ops [mM 27 6,
 oM 28 (.bin .gtr (tM 27) (kM (0)))])
 (.cond (tM 28)
 (.seq (.ops [mM 29 3,
 mM 30 6,
 oM 31 (.fieldAddr 1 (tM 5)),
 oM 32 (.load false 1 false (tM 31)),
 oM 33 (.build [(.int .i64 0),(.int .i64 0)] [(0,1,(tM 30)),(1,1,(tM 32))]),
 oM 34 (.fieldAddr 0 (tM 5)),
 oM 35 (.load false 1 false (tM 34)),
 mM 36 6,
 oM 37 (.bin .sub (tM 36) (kM (1))),
 oM 38 (.build [(.int .i64 0),(.int .i64 0)] [(0,1,(tM 35)),(1,1,(tM 37))]),
 oM 39 (.lit 2 2 [(.int .i64 0),(.int .i64 0),(.int .i64 0),(.int .i64 0)] [(0,2,(tM 33)),(2,2,(tM 38))]),
 oM 40 (.append 2 (tM 29) (tM 39)),
 mM 3 40])
 (.exit 1))
 .skip)))
 (.seq (.ops [mM 41 0,
 oM 42 (.load false 2 true (tM 5)),
 oM 43 (.callv 0 (tM 41) [(tM 42)]),
 oM 44 (.un .not (tM 43))])
 (.cond (tM 44)
 .ret
 .skip))))))))))))⟩
def bR:bN:=⟨[],
 (.seq (.ops [mM 4 0,
 oM 5 (.len 0 (tM 4)),
 oM 6 (.bin .sub (tM 5) (kM (1))),
 oM 2 (.mv (kM (0))),
 mM 3 6])
 (.block 0
 (.loop
 (.seq (.seq (.ops [mM 7 2,
 mM 8 3,
 oM 9 (.bin .lss (tM 7) (tM 8))])
 (.cond (tM 9)
 .skip
 (.exit 0)))
 (.seq (.block 1
 (.ops [mM 14 0,
 mM 15 2,
 mM 16 0,
 mM 17 3,
 mM 18 0,
 mM 19 3,
 oM 20 (.indexAddr 2 (tM 18) (tM 19)),
 oM 21 (.load false 2 true (tM 20)),
 mM 22 0,
 mM 23 2,
 oM 24 (.indexAddr 2 (tM 22) (tM 23)),
 oM 25 (.load false 2 true (tM 24)),
 oM 26 (.indexAddr 2 (tM 14) (tM 15)),
 nM (.store 2 (tM 26) (tM 21)),
 oM 27 (.indexAddr 2 (tM 16) (tM 17)),
 nM (.store 2 (tM 27) (tM 25))]))
 (.ops [mM 10 2,
 oM 11 (.bin .add (tM 10) (kM (1))),
 mM 12 3,
 oM 13 (.bin .sub (tM 12) (kM (1))),
 mM 2 11,
 mM 3 13]))))))⟩
def f4:bN:=⟨[.tmp 2],
 (.seq (.ops [oM 2 (.mv (.const (.rd 0 [] true)))])
 (.seq (.ops [oM 3 (.mv (.const (.rd 0 [] true)))])
 (.seq (.seq (.ops [mM 10 0,
 oM 11 (.len 0 (tM 10)),
 oM 12 (.mv (kM (0)))])
 (.block 0
 (.loop
 (.seq (.ops [oM 13 (.bin .lss (tM 12) (tM 11))])
 (.seq (.cond (tM 13)
 .skip
 (.exit 0))
 (.seq (.block 1
 (.seq (.ops [oM 14 (.indexAddr 2 (tM 10) (tM 12)),
 oM 15 (.load false 2 true (tM 14)),
 oM 5 (.alloc [(.int .i64 0),(.int .i64 0)]),
 nM (.store 2 (tM 5) (tM 15))])
 (.seq (.ops [oM 6 (.mv (kM (0)))])
 (.seq (.ops [oM 16 (.call 0 293 []),
 oM 17 (.len 0 (tM 16)),
 oM 18 (.mv (kM (0)))])
 (.block 2
 (.loop
 (.seq (.ops [oM 19 (.bin .lss (tM 18) (tM 17))])
 (.seq (.cond (tM 19)
 .skip
 (.exit 2))
 (.seq (.block 3
 (.seq (.ops [oM 20 (.indexAddr 1 (tM 16) (tM 18)),
 oM 21 (.load false 1 false (tM 20)),
 mM 8 21])
 (.seq (.seq (.ops [oM 22 (.fieldAddr 0 (tM 5)),
 oM 23 (.load false 1 false (tM 22)),
 mM 24 6,
 oM 25 (.mx [(tM 23),(tM 24)]),
 oM 26 (.fieldAddr 1 (tM 5)),
 oM 27 (.load false 1 false (tM 26)),
 mM 28 8,
 oM 29 (.mn [(tM 27),(tM 28)]),
 oM 30 (.build [(.int .i64 0),(.int .i64 0)] [(0,1,(tM 25)),(1,1,(tM 29))]),
 oM 9 (.alloc [(.int .i64 0),(.int .i64 0)]),
 nM (.store 2 (tM 9) (tM 30))])
 (.seq (.ops [oM 31 (.fieldAddr 0 (tM 9)),
 oM 32 (.load false 1 false (tM 31)),
 oM 33 (.fieldAddr 1 (tM 9)),
 oM 34 (.load false 1 false (tM 33)),
 oM 35 (.bin .leq (tM 32) (tM 34))])
 (.cond (tM 35)
 (.ops [mM 36 3,
 oM 37 (.load false 2 true (tM 9)),
 oM 38 (.lit 2 1 [(.int .i64 0),(.int .i64 0)] [(0,2,(tM 37))]),
 oM 39 (.append 2 (tM 36) (tM 38)),
 mM 3 39])
 .skip)))
 (.ops [mM 40 8,
 oM 41 (.bin .add (tM 40) (kM (1))),
 mM 6 41]))))
 (.ops [oM 42 (.bin .add (tM 18) (kM (1))),
 mM 18 42]))))))))))
 (.ops [oM 43 (.bin .add (tM 12) (kM (1))),
 mM 12 43])))))))
 (.seq (.ops [mM 44 3,
 mM 2 44])
 .ret))))⟩
def iZ:bN:=⟨[.tmp 2],
 (.seq (.ops [oM 2 (.mv (.const (.rd 0 [] true)))])
 (.seq (.ops [oM 3 (.alloc [(.rd 0 [] true)])])
 (.seq (.seq (.ops [mM 9 0,
 oM 10 (.call 0 38 [(tM 9)]),
 oM 11 (.call 0 276 [(tM 10)]),
 oM 12 (.call 0 275 [(tM 11)])])
 (.block 0
 (.rangef (tM 12) [13]
 (.ops [oM 4 (.alloc [(.int .i64 0),(.int .i64 0)]),
 nM (.store 2 (tM 4) (tM 13))])
 (.block 1
 (.seq (.ops [oM 14 (.fieldAddr 0 (tM 4)),
 oM 15 (.load false 1 false (tM 14)),
 oM 16 (.call 1 277 [(tM 15)]),
 oM 17 (.fieldAddr 1 (tM 4)),
 oM 18 (.load false 1 false (tM 17)),
 oM 19 (.call 0 277 [(tM 18)]),
 mM 5 16,
 mM 6 19])
 (.seq (.ops [mM 20 5,
 oM 21 (.len 0 (tM 20)),
 oM 22 (.mkslice [(.int .u8 0),(.int .u8 0)] (tM 21) (tM 21)),
 mM 7 22])
 (.seq (.seq (.ops [mM 23 7,
 oM 24 (.len 0 (tM 23)),
 oM 25 (.mv (kM (0)))])
 (.block 2
 (.loop
 (.seq (.ops [oM 26 (.bin .lss (tM 25) (tM 24))])
 (.seq (.cond (tM 26)
 .skip
 (.exit 2))
 (.seq (.block 3
 (.seq (.ops [mM 27 25,
 mM 8 27])
 (.ops [mM 28 7,
 mM 29 8,
 mM 30 5,
 mM 31 8,
 oM 32 (.indexAddr 1 (tM 30) (tM 31)),
 oM 33 (.load false 1 false (tM 32)),
 mM 34 6,
 mM 35 8,
 oM 36 (.indexAddr 1 (tM 34) (tM 35)),
 oM 37 (.load false 1 false (tM 36)),
 oM 38 (.build [(.int .u8 0),(.int .u8 0)] [(0,1,(tM 33)),(1,1,(tM 37))]),
 oM 39 (.indexAddr 2 (tM 28) (tM 29)),
 nM (.store 2 (tM 39) (tM 38))])))
 (.ops [oM 40 (.bin .add (tM 25) (kM (1))),
 mM 25 40])))))))
 (.ops [oM 41 (.load false 1 false (tM 3)),
 mM 42 7,
 oM 43 (.lit 1 1 [(.rd 0 [] true)] [(0,1,(tM 42))]),
 oM 44 (.append 1 (tM 41) (tM 43)),
 nM (.store 1 (tM 3) (tM 44))]))))))))
 (.seq (.ops [oM 45 (.load false 1 false (tM 3)),
 mM 2 45])
 .ret))))⟩
def fQ:bN:=⟨[.tmp 4],
 (.seq (.ops [oM 4 (.mv (.const (.rd 0 [] true)))])
 (.seq (.seq (.ops [mM 9 1,
 oM 10 (.bin .lss (tM 9) (kM (0)))])
 (.cond (tM 10)
 (.ops [oM 11 (.stuck),
 nM (.stuck)])
 .skip))
 (.seq (.ops [mM 13 0,
 oM 14 (.len 0 (tM 13)),
 oM 15 (.conv .u64 (tM 14)),
 mM 16 1,
 oM 17 (.conv .u64 (tM 16)),
 oM 18 (.call 0 308 [(tM 15),(tM 17)]),
 mM 12 18,
 oM 19 (.extract (tM 12) 0),
 oM 20 (.extract (tM 12) 1),
 mM 5 19,
 mM 6 20])
 (.seq (.seq (.ops [mM 21 5,
 oM 22 (.bin .gtr (tM 21) (.const (.int .u64 0))),
 mM 23 22,
 gM 24 23 false (.mv (tM 6)),
 gM 25 23 false (.bin .gtr (tM 24) (.const (.int .u64 9223372036854775807))),
 oM 26 (.pick (tM 23) (.const (.bool true)) (tM 25))])
 (.cond (tM 26)
 (.ops [oM 27 (.stuck),
 nM (.stuck)])
 .skip))
 (.seq (.ops [mM 28 6,
 oM 29 (.conv .i64 (tM 28)),
 oM 30 (.mkslice [(.int .i64 0)] (tM 29) (tM 29)),
 mM 7 30])
 (.seq (.ops [mM 31 7,
 mM 32 0,
 oM 33 (.copy 1 (tM 31) (tM 32)),
 mM 8 33])
 (.seq (.block 0
 (.loop
 (.seq (.seq (.ops [mM 34 8,
 mM 35 7,
 oM 36 (.len 0 (tM 35)),
 oM 37 (.bin .lss (tM 34) (tM 36))])
 (.cond (tM 37)
 .skip
 (.exit 0)))
 (.block 1
 (.ops [mM 38 8,
 mM 39 7,
 mM 40 8,
 oM 41 (.slice 1 (tM 39) (some (tM 40)) none none),
 mM 42 7,
 mM 43 8,
 oM 44 (.slice 1 (tM 42) none (some (tM 43)) none),
 oM 45 (.copy 1 (tM 41) (tM 44)),
 oM 46 (.bin .add (tM 38) (tM 45)),
 mM 8 46])))))
 (.seq (.ops [mM 47 7,
 mM 4 47])
 .ret))))))))⟩
def lr:bN:=⟨[.tmp 4,.tmp 5],
 (.seq (.ops [oM 4 (.mv (.const (.int .u64 0))),
 oM 5 (.mv (.const (.int .u64 0)))])
 (.seq (.cond (.const (.bool false))
 (.seq (.ops [mM 11 0,
 oM 12 (.conv .u32 (tM 11)),
 mM 13 1,
 oM 14 (.conv .u32 (tM 13)),
 oM 15 (.call 0 313 [(tM 12),(tM 14)]),
 mM 10 15,
 oM 16 (.extract (tM 10) 0),
 oM 17 (.extract (tM 10) 1),
 mM 6 16,
 mM 7 17])
 (.seq (.ops [mM 18 6,
 oM 19 (.conv .u64 (tM 18)),
 mM 20 7,
 oM 21 (.conv .u64 (tM 20)),
 mM 4 19,
 mM 5 21])
 .ret))
 .skip)
 (.seq (.ops [mM 23 0,
 mM 24 1,
 oM 25 (.call 0 314 [(tM 23),(tM 24)]),
 mM 22 25,
 oM 26 (.extract (tM 22) 0),
 oM 27 (.extract (tM 22) 1),
 mM 8 26,
 mM 9 27])
 (.seq (.ops [mM 28 8,
 mM 29 9,
 mM 4 28,
 mM 5 29])
 .ret))))⟩
def kj:bN:=⟨[.tmp 4,.tmp 5],
 (.seq (.ops [oM 4 (.mv (.const (.int .u64 0))),
 oM 5 (.mv (.const (.int .u64 0)))])
 (.seq (.ops [mM 14 0,
 oM 15 (.bin .and (tM 14) (.const (.int .u64 4294967295))),
 mM 6 15])
 (.seq (.ops [mM 16 0,
 oM 17 (.bin .shr (tM 16) (.const (.int .u64 32))),
 mM 7 17])
 (.seq (.ops [mM 18 1,
 oM 19 (.bin .and (tM 18) (.const (.int .u64 4294967295))),
 mM 8 19])
 (.seq (.ops [mM 20 1,
 oM 21 (.bin .shr (tM 20) (.const (.int .u64 32))),
 mM 9 21])
 (.seq (.ops [mM 22 6,
 mM 23 8,
 oM 24 (.bin .mul (tM 22) (tM 23)),
 mM 10 24])
 (.seq (.ops [mM 25 7,
 mM 26 8,
 oM 27 (.bin .mul (tM 25) (tM 26)),
 mM 28 10,
 oM 29 (.bin .shr (tM 28) (.const (.int .u64 32))),
 oM 30 (.bin .add (tM 27) (tM 29)),
 mM 11 30])
 (.seq (.ops [mM 31 11,
 oM 32 (.bin .and (tM 31) (.const (.int .u64 4294967295))),
 mM 12 32])
 (.seq (.ops [mM 33 11,
 oM 34 (.bin .shr (tM 33) (.const (.int .u64 32))),
 mM 13 34])
 (.seq (.ops [mM 35 12,
 mM 36 6,
 mM 37 9,
 oM 38 (.bin .mul (tM 36) (tM 37)),
 oM 39 (.bin .add (tM 35) (tM 38)),
 mM 12 39])
 (.seq (.ops [mM 40 7,
 mM 41 9,
 oM 42 (.bin .mul (tM 40) (tM 41)),
 mM 43 13,
 oM 44 (.bin .add (tM 42) (tM 43)),
 mM 45 12,
 oM 46 (.bin .shr (tM 45) (.const (.int .u64 32))),
 oM 47 (.bin .add (tM 44) (tM 46)),
 mM 4 47])
 (.seq (.ops [mM 48 0,
 mM 49 1,
 oM 50 (.bin .mul (tM 48) (tM 49)),
 mM 5 50])
 .ret))))))))))))⟩
def gD:bN:=⟨[.tmp 2],
 (.seq (.ops [oM 2 (.mv (.const (.str [])))])
 (.seq (.ops [oM 3 (.mv (.const (.rd 0 [] true)))])
 (.seq (.seq (.ops [mM 8 0,
 oM 9 (.len 0 (tM 8)),
 oM 10 (.mv (kM (0)))])
 (.block 0
 (.loop
 (.seq (.ops [oM 11 (.bin .lss (tM 10) (tM 9))])
 (.seq (.cond (tM 11)
 .skip
 (.exit 0))
 (.seq (.block 1
 (.seq (.ops [oM 12 (.indexAddr 2 (tM 8) (tM 10)),
 oM 13 (.load false 2 true (tM 12)),
 oM 5 (.alloc [(.rd 0 [] true),(.int .i64 0)]),
 nM (.store 2 (tM 5) (tM 13))])
 (.seq (.ops [mM 14 3,
 oM 15 (.fieldAddr 1 (tM 5)),
 oM 16 (.load false 1 false (tM 15)),
 oM 17 (.call 0 118 [(tM 14),(tM 16),(kM (36))]),
 mM 3 17])
 (.seq (.seq (.ops [oM 18 (.fieldAddr 0 (tM 5)),
 oM 19 (.load false 1 false (tM 18)),
 oM 20 (.len 0 (tM 19)),
 oM 21 (.mv (kM (0)))])
 (.block 2
 (.loop
 (.seq (.ops [oM 22 (.bin .lss (tM 21) (tM 20))])
 (.seq (.cond (tM 22)
 .skip
 (.exit 2))
 (.seq (.block 3
 (.seq (.ops [oM 23 (.indexAddr 2 (tM 19) (tM 21)),
 oM 24 (.load false 2 true (tM 23)),
 oM 7 (.alloc [(.int .u8 0),(.int .u8 0)]),
 nM (.store 2 (tM 7) (tM 24))])
 (.ops [mM 25 3,
 oM 26 (.fieldAddr 0 (tM 7)),
 oM 27 (.load false 1 false (tM 26)),
 oM 28 (.fieldAddr 1 (tM 7)),
 oM 29 (.load false 1 false (tM 28)),
 oM 30 (.lit 1 3 [(.int .u8 0),(.int .u8 0),(.int .u8 0)] [(0,1,(.const (.int .u8 32))),(1,1,(tM 27)),(2,1,(tM 29))]),
 oM 31 (.append 1 (tM 25) (tM 30)),
 mM 3 31])))
 (.ops [oM 32 (.bin .add (tM 21) (kM (1))),
 mM 21 32])))))))
 (.ops [mM 33 3,
 oM 34 (.fieldAddr 0 (tM 5)),
 oM 35 (.load false 1 false (tM 34)),
 oM 36 (.len 0 (tM 35)),
 oM 37 (.conv .u8 (tM 36)),
 oM 38 (.lit 1 2 [(.int .u8 0),(.int .u8 0)] [(0,1,(.const (.int .u8 46))),(1,1,(tM 37))]),
 oM 39 (.append 1 (tM 33) (tM 38)),
 mM 3 39])))))
 (.ops [oM 40 (.bin .add (tM 10) (kM (1))),
 mM 10 40])))))))
 (.seq (.ops [mM 41 3,
 oM 42 (.strOf (tM 41)),
 mM 2 42])
 .ret))))⟩
def eC:bN:=⟨[.tmp 6],
 (.seq (.ops [oM 6 (.mv (kM (0)))])
 (.seq (.ops [mM 7 0,
 mM 8 0,
 oM 9 (.nilck (tM 8)),
 oM 10 (.fieldAddr 6 (tM 9)),
 oM 11 (.load false 1 false (tM 10)),
 mM 12 1,
 oM 13 (.lit 1 1 [(.rd 0 [] true)] [(0,1,(tM 12))]),
 oM 14 (.append 1 (tM 11) (tM 13)),
 oM 15 (.nilck (tM 7)),
 oM 16 (.fieldAddr 6 (tM 15)),
 nM (.store 1 (tM 16) (tM 14))])
 (.seq (.ops [mM 17 0,
 mM 18 0,
 oM 19 (.nilck (tM 18)),
 oM 20 (.fieldAddr 4 (tM 19)),
 oM 21 (.fieldAddr 0 (tM 20)),
 oM 22 (.load false 1 false (tM 21)),
 oM 23 (.lit 1 1 [(.int .i64 0)] [(0,1,(kM ((-1))))]),
 oM 24 (.callk true 296 [(tM 23),(kM (256))]),
 oM 25 (.lit 1 1 [(.rd 0 [] true)] [(0,1,(tM 24))]),
 oM 26 (.append 1 (tM 22) (tM 25)),
 oM 27 (.nilck (tM 17)),
 oM 28 (.fieldAddr 4 (tM 27)),
 oM 29 (.fieldAddr 0 (tM 28)),
 nM (.store 1 (tM 29) (tM 26))])
 (.seq (.ops [mM 30 0,
 mM 31 0,
 oM 32 (.nilck (tM 31)),
 oM 33 (.fieldAddr 4 (tM 32)),
 oM 34 (.fieldAddr 1 (tM 33)),
 oM 35 (.load false 1 false (tM 34)),
 mM 36 2,
 oM 37 (.lit 1 1 [(.int .i64 0)] [(0,1,(tM 36))]),
 oM 38 (.append 1 (tM 35) (tM 37)),
 oM 39 (.nilck (tM 30)),
 oM 40 (.fieldAddr 4 (tM 39)),
 oM 41 (.fieldAddr 1 (tM 40)),
 nM (.store 1 (tM 41) (tM 38))])
 (.seq (.ops [mM 42 0,
 oM 43 (.nilck (tM 42)),
 oM 44 (.fieldAddr 6 (tM 43)),
 oM 45 (.load false 1 false (tM 44)),
 oM 46 (.len 0 (tM 45)),
 oM 47 (.bin .sub (tM 46) (kM (1))),
 mM 6 47])
 .ret)))))⟩
def dX:bN:=⟨[.tmp 4],
 (.seq (.ops [oM 4 (.mv (kM (0)))])
 (.seq (.seq (.ops [mM 13 0,
 oM 14 (.nilck (tM 13)),
 oM 15 (.fieldAddr 8 (tM 14)),
 oM 16 (.load false 1 false (tM 15)),
 mM 17 1,
 oM 18 (.lookup (some .i64) (.int .i64 0) true (tM 16) (tM 17)),
 mM 12 18,
 oM 19 (.extract (tM 12) 0),
 oM 20 (.extract (tM 12) 1),
 mM 5 19,
 mM 6 20])
 (.seq (.ops [mM 21 6])
 (.cond (tM 21)
 (.seq (.ops [mM 22 5,
 mM 4 22])
 .ret)
 .skip)))
 (.seq (.ops [oM 7 (.mv (.const (.rd 0 [] true)))])
 (.seq (.seq (.ops [mM 23 0,
 oM 24 (.nilck (tM 23)),
 oM 25 (.fieldAddr 0 (tM 24)),
 oM 26 (.fieldAddr 1 (tM 25)),
 oM 27 (.load false 1 false (tM 26)),
 mM 28 1,
 oM 29 (.indexAddr 1 (tM 27) (tM 28)),
 oM 30 (.load false 1 false (tM 29)),
 oM 31 (.len 0 (tM 30)),
 oM 32 (.mv (kM (0)))])
 (.block 0
 (.loop
 (.seq (.ops [oM 33 (.bin .lss (tM 32) (tM 31))])
 (.seq (.cond (tM 33)
 .skip
 (.exit 0))
 (.seq (.block 1
 (.seq (.ops [mM 34 32,
 oM 35 (.indexAddr 1 (tM 30) (tM 32)),
 oM 36 (.load false 1 false (tM 35)),
 mM 8 34,
 mM 9 36])
 (.seq (.seq (.ops [mM 37 9,
 oM 38 (.bin .eql (tM 37) (kM ((-1))))])
 (.cond (tM 38)
 (.exit 1)
 .skip))
 (.seq (.ops [mM 39 0,
 oM 40 (.nilck (tM 39)),
 oM 41 (.fieldAddr 3 (tM 40)),
 oM 42 (.load false 1 false (tM 41)),
 mM 43 8,
 oM 44 (.indexAddr 1 (tM 42) (tM 43)),
 oM 45 (.load false 1 false (tM 44)),
 oM 46 (.len 0 (tM 45)),
 oM 47 (.mv (kM (0)))])
 (.block 2
 (.loop
 (.seq (.ops [oM 48 (.bin .lss (tM 47) (tM 46))])
 (.seq (.cond (tM 48)
 .skip
 (.exit 2))
 (.seq (.block 3
 (.seq (.ops [oM 49 (.indexAddr 1 (tM 45) (tM 47)),
 oM 50 (.load false 1 false (tM 49)),
 mM 11 50])
 (.ops [mM 51 7,
 mM 52 11,
 mM 53 9,
 oM 54 (.build [(.rd 0 [] true),(.int .i64 0)] [(0,1,(tM 52)),(1,1,(tM 53))]),
 oM 55 (.lit 2 1 [(.rd 0 [] true),(.int .i64 0)] [(0,2,(tM 54))]),
 oM 56 (.append 2 (tM 51) (tM 55)),
 mM 7 56])))
 (.ops [oM 57 (.bin .add (tM 47) (kM (1))),
 mM 47 57]))))))))))
 (.ops [oM 58 (.bin .add (tM 32) (kM (1))),
 mM 32 58])))))))
 (.seq (.ops [mM 59 0,
 oM 60 (.nilck (tM 59)),
 oM 61 (.fieldAddr 8 (tM 60)),
 oM 62 (.loadm false (tM 61)),
 mM 63 1,
 mM 64 0,
 mM 65 7,
 mM 66 0,
 oM 67 (.nilck (tM 66)),
 oM 68 (.fieldAddr 0 (tM 67)),
 oM 69 (.fieldAddr 2 (tM 68)),
 oM 70 (.load false 1 false (tM 69)),
 mM 71 1,
 oM 72 (.indexAddr 1 (tM 70) (tM 71)),
 oM 73 (.load false 1 false (tM 72)),
 oM 74 (.callk false 278 [(tM 64),(tM 65),(tM 73)]),
 nM (.update (some .i64) (tM 62) (tM 63) (tM 74))])
 (.seq (.ops [mM 75 0,
 oM 76 (.nilck (tM 75)),
 oM 77 (.fieldAddr 8 (tM 76)),
 oM 78 (.load false 1 false (tM 77)),
 mM 79 1,
 oM 80 (.lookup (some .i64) (.int .i64 0) false (tM 78) (tM 79)),
 mM 4 80])
 .ret))))))⟩
def ef:bN:=⟨[.tmp 4],
 (.seq (.ops [oM 4 (.mv (kM (0)))])
 (.seq (.ops [mM 8 1,
 oM 9 (.call 0 297 [(tM 8)]),
 mM 5 9])
 (.seq (.ops [mM 11 0,
 oM 12 (.nilck (tM 11)),
 oM 13 (.fieldAddr 7 (tM 12)),
 oM 14 (.load false 1 false (tM 13)),
 mM 15 5,
 oM 16 (.lookup none (.int .i64 0) true (tM 14) (tM 15)),
 mM 10 16,
 oM 17 (.extract (tM 10) 0),
 oM 18 (.extract (tM 10) 1),
 mM 6 17,
 mM 7 18])
 (.seq (.seq (.ops [mM 19 7,
 oM 20 (.un .not (tM 19))])
 (.cond (tM 20)
 (.seq (.ops [mM 21 0,
 mM 22 1,
 oM 23 (.call 0 278 [(tM 21),(tM 22),(kM ((-1)))]),
 mM 6 23])
 (.ops [mM 24 0,
 oM 25 (.nilck (tM 24)),
 oM 26 (.fieldAddr 7 (tM 25)),
 oM 27 (.load false 1 false (tM 26)),
 mM 28 5,
 mM 29 6,
 nM (.update none (tM 27) (tM 28) (tM 29))]))
 .skip))
 (.seq (.ops [mM 30 6,
 mM 4 30])
 .ret)))))⟩
def ee:bN:=⟨[.tmp 6],
 (.seq (.ops [oM 6 (.mv (kM (0)))])
 (.seq (.ops [oM 7 (.mv (.const (.rd 0 [] true)))])
 (.seq (.seq (.ops [mM 11 0,
 oM 12 (.nilck (tM 11)),
 oM 13 (.fieldAddr 6 (tM 12)),
 oM 14 (.load false 1 false (tM 13)),
 mM 15 1,
 oM 16 (.indexAddr 1 (tM 14) (tM 15)),
 oM 17 (.load false 1 false (tM 16)),
 oM 18 (.len 0 (tM 17)),
 oM 19 (.mv (kM (0)))])
 (.block 0
 (.loop
 (.seq (.ops [oM 20 (.bin .lss (tM 19) (tM 18))])
 (.seq (.cond (tM 20)
 .skip
 (.exit 0))
 (.seq (.block 1
 (.seq (.ops [oM 21 (.indexAddr 2 (tM 17) (tM 19)),
 oM 22 (.load false 2 true (tM 21)),
 oM 9 (.alloc [(.rd 0 [] true),(.int .i64 0)]),
 nM (.store 2 (tM 9) (tM 22))])
 (.seq (.seq (.ops [oM 23 (.fieldAddr 0 (tM 9)),
 oM 24 (.load false 1 false (tM 23)),
 oM 25 (.indexAddr 2 (tM 24) (kM (0))),
 oM 26 (.load false 2 true (tM 25)),
 oM 10 (.alloc [(.int .u8 0),(.int .u8 0)]),
 nM (.store 2 (tM 10) (tM 26))])
 (.seq (.ops [mM 27 2,
 oM 28 (.fieldAddr 0 (tM 10)),
 oM 29 (.load false 1 false (tM 28)),
 oM 30 (.bin .lss (tM 27) (tM 29)),
 mM 31 30,
 gM 32 31 false (.mv (tM 2)),
 gM 33 31 false (.fieldAddr 1 (tM 10)),
 gM 34 31 false (.load false 1 false (tM 33)),
 gM 35 31 false (.bin .gtr (tM 32) (tM 34)),
 oM 36 (.pick (tM 31) (.const (.bool true)) (tM 35))])
 (.cond (tM 36)
 (.exit 1)
 .skip)))
 (.seq (.seq (.ops [oM 37 (.fieldAddr 0 (tM 9)),
 oM 38 (.load false 1 false (tM 37)),
 oM 39 (.len 0 (tM 38)),
 oM 40 (.bin .eql (tM 39) (kM (1)))])
 (.cond (tM 40)
 (.seq (.ops [mM 41 0,
 oM 42 (.fieldAddr 1 (tM 9)),
 oM 43 (.load false 1 false (tM 42)),
 oM 44 (.call 0 268 [(tM 41),(tM 43)]),
 mM 6 44])
 .ret)
 .skip))
 (.ops [mM 45 7,
 oM 46 (.fieldAddr 0 (tM 9)),
 oM 47 (.load false 1 false (tM 46)),
 oM 48 (.slice 2 (tM 47) (some (kM (1))) none none),
 oM 49 (.fieldAddr 1 (tM 9)),
 oM 50 (.load false 1 false (tM 49)),
 oM 51 (.build [(.rd 0 [] true),(.int .i64 0)] [(0,1,(tM 48)),(1,1,(tM 50))]),
 oM 52 (.lit 2 1 [(.rd 0 [] true),(.int .i64 0)] [(0,2,(tM 51))]),
 oM 53 (.append 2 (tM 45) (tM 52)),
 mM 7 53])))))
 (.ops [oM 54 (.bin .add (tM 19) (kM (1))),
 mM 19 54])))))))
 (.seq (.seq (.ops [mM 55 7,
 oM 56 (.len 0 (tM 55)),
 oM 57 (.bin .eql (tM 56) (kM (0)))])
 (.cond (tM 57)
 (.seq (.ops [oM 6 (.mv (kM ((-1))))])
 .ret)
 .skip))
 (.seq (.ops [mM 58 0,
 mM 59 7,
 oM 60 (.call 0 279 [(tM 58),(tM 59)]),
 mM 6 60])
 .ret)))))⟩
def f6:bN:=⟨[.tmp 2],
 (.seq (.ops [oM 1 (.box (tM 0)),
 oM 2 (.mv (.const (.rd 0 [] true)))])
 (.seq (.ops [oM 14 (.fieldAddr 1 (tM 1)),
 oM 15 (.load false 1 false (tM 14)),
 oM 16 (.call 0 116 [(tM 15)]),
 mM 3 16])
 (.seq (.ops [oM 4 (.mv (kM (0)))])
 (.seq .skip
 (.seq (.block 0
 (.loop
 (.block 1
 (.seq (.ops [oM 17 (.mkmap none),
 mM 5 17])
 (.seq (.ops [mM 18 3,
 oM 19 (.len 0 (tM 18)),
 oM 20 (.mkslice [(.int .i64 0)] (tM 19) (tM 19)),
 mM 6 20])
 (.seq (.seq (.ops [oM 21 (.fieldAddr 0 (tM 1)),
 oM 22 (.load false 1 false (tM 21)),
 oM 23 (.len 0 (tM 22)),
 oM 24 (.mv (kM (0)))])
 (.block 2
 (.loop
 (.seq (.ops [oM 25 (.bin .lss (tM 24) (tM 23))])
 (.seq (.cond (tM 25)
 .skip
 (.exit 2))
 (.seq (.block 3
 (.seq (.ops [mM 26 24,
 oM 27 (.indexAddr 1 (tM 22) (tM 24)),
 oM 28 (.load false 1 false (tM 27)),
 mM 7 26,
 mM 8 28])
 (.seq (.ops [mM 29 3,
 mM 30 7,
 oM 31 (.indexAddr 1 (tM 29) (tM 30)),
 oM 32 (.load false 1 false (tM 31)),
 oM 33 (.call 0 118 [(.const (.rd 0 [] true)),(tM 32),(kM (36))]),
 mM 9 33])
 (.seq (.seq (.ops [mM 34 8,
 oM 35 (.len 0 (tM 34)),
 oM 36 (.mv (kM (0)))])
 (.block 4
 (.loop
 (.seq (.ops [oM 37 (.bin .lss (tM 36) (tM 35))])
 (.seq (.cond (tM 37)
 .skip
 (.exit 4))
 (.seq (.block 5
 (.seq (.ops [oM 38 (.indexAddr 1 (tM 34) (tM 36)),
 oM 39 (.load false 1 false (tM 38)),
 mM 11 39])
 (.seq (.ops [mM 40 9,
 oM 41 (.lit 1 1 [(.int .u8 0)] [(0,1,(.const (.int .u8 32)))]),
 oM 42 (.append 1 (tM 40) (tM 41)),
 mM 9 42])
 (.seq (.ops [mM 43 11,
 oM 44 (.bin .neq (tM 43) (kM ((-1))))])
 (.cond (tM 44)
 (.ops [mM 45 9,
 mM 46 3,
 mM 47 11,
 oM 48 (.indexAddr 1 (tM 46) (tM 47)),
 oM 49 (.load false 1 false (tM 48)),
 oM 50 (.call 0 118 [(tM 45),(tM 49),(kM (36))]),
 mM 9 50])
 (.ops [mM 51 9,
 oM 52 (.lit 1 1 [(.int .u8 0)] [(0,1,(.const (.int .u8 33)))]),
 oM 53 (.append 1 (tM 51) (tM 52)),
 mM 9 53]))))))
 (.ops [oM 54 (.bin .add (tM 36) (kM (1))),
 mM 36 54])))))))
 (.seq (.ops [mM 56 5,
 mM 57 9,
 oM 58 (.strOf (tM 57)),
 oM 59 (.lookup none (.int .i64 0) true (tM 56) (tM 58)),
 mM 55 59,
 oM 60 (.extract (tM 55) 0),
 oM 61 (.extract (tM 55) 1),
 mM 12 60,
 mM 13 61])
 (.seq (.seq (.ops [mM 62 13,
 oM 63 (.un .not (tM 62))])
 (.cond (tM 63)
 (.seq (.ops [mM 64 5,
 oM 65 (.len 2 (tM 64)),
 mM 12 65])
 (.ops [mM 66 5,
 mM 67 9,
 oM 68 (.strOf (tM 67)),
 mM 69 12,
 nM (.update none (tM 66) (tM 68) (tM 69))]))
 .skip))
 (.ops [mM 70 6,
 mM 71 7,
 mM 72 12,
 oM 73 (.indexAddr 1 (tM 70) (tM 71)),
 nM (.store 1 (tM 73) (tM 72))])))))))
 (.ops [oM 74 (.bin .add (tM 24) (kM (1))),
 mM 24 74])))))))
 (.seq (.ops [mM 75 6,
 mM 3 75])
 (.seq (.seq (.ops [mM 76 5,
 oM 77 (.len 2 (tM 76)),
 mM 78 4,
 oM 79 (.bin .eql (tM 77) (tM 78))])
 (.cond (tM 79)
 (.exit 0)
 .skip))
 (.ops [mM 80 5,
 oM 81 (.len 2 (tM 80)),
 mM 4 81])))))))))
 (.seq (.ops [mM 82 3,
 mM 2 82])
 .ret))))))⟩
def fD:bN:=⟨[.cell 2 2 true],
 (.seq (.ops [oM 1 (.box (tM 0)),
 oM 2 (.alloc [(.rd 0 [] true),(.rd 0 [] true)])])
 (.seq (.ops [oM 13 (.load false 2 true (tM 1)),
 oM 14 (.call 0 280 [(tM 13)]),
 mM 3 14])
 (.seq (.ops [oM 15 (.lit 1 1 [(.int .i64 0)] [(0,1,(kM (0)))]),
 mM 4 15])
 (.seq (.ops [oM 16 (.mkmap (some .i64)),
 mM 17 3,
 oM 18 (.indexAddr 1 (tM 17) (kM (0))),
 oM 19 (.load false 1 false (tM 18)),
 nM (.update (some .i64) (tM 16) (tM 19) (kM (0))),
 mM 20 16,
 mM 5 20])
 (.seq (.ops [oM 6 (.alloc [(.rd 0 [] true),(.rd 0 [] true)])])
 (.seq (.seq (.ops [oM 7 (.mv (kM (0)))])
 (.block 0
 (.loop
 (.seq (.seq (.ops [mM 21 7,
 mM 22 4,
 oM 23 (.len 0 (tM 22)),
 oM 24 (.bin .lss (tM 21) (tM 23))])
 (.cond (tM 24)
 .skip
 (.exit 0)))
 (.seq (.block 1
 (.seq (.ops [oM 27 (.mkslice [(.int .i64 0)] (kM (256)) (kM (256))),
 mM 8 27])
 (.seq (.seq (.ops [oM 28 (.fieldAddr 0 (tM 1)),
 oM 29 (.load false 1 false (tM 28)),
 mM 30 4,
 mM 31 7,
 oM 32 (.indexAddr 1 (tM 30) (tM 31)),
 oM 33 (.load false 1 false (tM 32)),
 oM 34 (.indexAddr 1 (tM 29) (tM 33)),
 oM 35 (.load false 1 false (tM 34)),
 oM 36 (.len 0 (tM 35)),
 oM 37 (.mv (kM (0)))])
 (.block 2
 (.loop
 (.seq (.ops [oM 38 (.bin .lss (tM 37) (tM 36))])
 (.seq (.cond (tM 38)
 .skip
 (.exit 2))
 (.seq (.block 3
 (.seq (.ops [mM 39 37,
 oM 40 (.indexAddr 1 (tM 35) (tM 37)),
 oM 41 (.load false 1 false (tM 40)),
 mM 9 39,
 mM 10 41])
 (.seq (.seq (.ops [mM 42 8,
 mM 43 9,
 mM 44 10,
 oM 45 (.indexAddr 1 (tM 42) (tM 43)),
 nM (.store 1 (tM 45) (tM 44))])
 (.seq (.ops [mM 46 10,
 oM 47 (.bin .eql (tM 46) (kM ((-1))))])
 (.cond (tM 47)
 (.exit 3)
 .skip)))
 (.seq (.ops [mM 49 5,
 mM 50 3,
 mM 51 10,
 oM 52 (.indexAddr 1 (tM 50) (tM 51)),
 oM 53 (.load false 1 false (tM 52)),
 oM 54 (.lookup (some .i64) (.int .i64 0) true (tM 49) (tM 53)),
 mM 48 54,
 oM 55 (.extract (tM 48) 0),
 oM 56 (.extract (tM 48) 1),
 mM 11 55,
 mM 12 56])
 (.seq (.seq (.ops [mM 57 12,
 oM 58 (.un .not (tM 57))])
 (.cond (tM 58)
 (.seq (.ops [mM 59 4,
 oM 60 (.len 0 (tM 59)),
 mM 11 60])
 (.seq (.ops [mM 61 5,
 mM 62 3,
 mM 63 10,
 oM 64 (.indexAddr 1 (tM 62) (tM 63)),
 oM 65 (.load false 1 false (tM 64)),
 mM 66 11,
 nM (.update (some .i64) (tM 61) (tM 65) (tM 66))])
 (.ops [mM 67 4,
 mM 68 10,
 oM 69 (.lit 1 1 [(.int .i64 0)] [(0,1,(tM 68))]),
 oM 70 (.append 1 (tM 67) (tM 69)),
 mM 4 70])))
 .skip))
 (.ops [mM 71 8,
 mM 72 9,
 mM 73 11,
 oM 74 (.indexAddr 1 (tM 71) (tM 72)),
 nM (.store 1 (tM 74) (tM 73))]))))))
 (.ops [oM 75 (.bin .add (tM 37) (kM (1))),
 mM 37 75])))))))
 (.seq (.ops [oM 76 (.fieldAddr 0 (tM 6)),
 oM 77 (.load false 1 false (tM 76)),
 mM 78 8,
 oM 79 (.lit 1 1 [(.rd 0 [] true)] [(0,1,(tM 78))]),
 oM 80 (.append 1 (tM 77) (tM 79)),
 oM 81 (.fieldAddr 0 (tM 6)),
 nM (.store 1 (tM 81) (tM 80))])
 (.ops [oM 82 (.fieldAddr 1 (tM 6)),
 oM 83 (.load false 1 false (tM 82)),
 oM 84 (.fieldAddr 1 (tM 1)),
 oM 85 (.load false 1 false (tM 84)),
 mM 86 4,
 mM 87 7,
 oM 88 (.indexAddr 1 (tM 86) (tM 87)),
 oM 89 (.load false 1 false (tM 88)),
 oM 90 (.indexAddr 1 (tM 85) (tM 89)),
 oM 91 (.load false 1 false (tM 90)),
 oM 92 (.lit 1 1 [(.int .i64 0)] [(0,1,(tM 91))]),
 oM 93 (.append 1 (tM 83) (tM 92)),
 oM 94 (.fieldAddr 1 (tM 6)),
 nM (.store 1 (tM 94) (tM 93))])))))
 (.ops [mM 25 7,
 oM 26 (.bin .add (tM 25) (kM (1))),
 mM 7 26]))))))
 (.seq (.ops [oM 95 (.load false 2 true (tM 6)),
 nM (.store 2 (tM 2) (tM 95))])
 .ret)))))))⟩
def iE:bN:=⟨[.cell 2 2 true,.tmp 3],
 (.seq (.ops [oM 1 (.box (tM 0)),
 oM 2 (.alloc [(.rd 0 [] true),(.rd 0 [] true)]),
 oM 3 (.mv (.const (.int .u16 0)))])
 (.seq (.ops [oM 15 (.load false 3 true (tM 1)),
 oM 16 (.call 0 95 [(tM 15)]),
 mM 14 16,
 oM 17 (.extract (tM 14) 0),
 oM 18 (.extract (tM 14) 1),
 nM (.store 3 (tM 1) (tM 17)),
 mM 4 18])
 (.seq (.seq (.ops [mM 19 4,
 oM 20 (.bin .neq (tM 19) (.const (.int .u16 0)))])
 (.cond (tM 20)
 (.seq (.ops [oM 21 (.build [(.rd 0 [] true),(.rd 0 [] true)] []),
 mM 22 4,
 nM (.store 2 (tM 2) (tM 21)),
 mM 3 22])
 .ret)
 .skip))
 (.seq (.ops [oM 5 (.mv (kM (0)))])
 (.seq (.seq (.ops [oM 23 (.fieldAddr 0 (tM 1)),
 oM 24 (.load false 1 false (tM 23)),
 oM 25 (.len 0 (tM 24)),
 oM 26 (.mv (kM (0)))])
 (.block 0
 (.loop
 (.seq (.ops [oM 27 (.bin .lss (tM 26) (tM 25))])
 (.seq (.cond (tM 27)
 .skip
 (.exit 0))
 (.seq (.block 1
 (.seq (.ops [oM 28 (.indexAddr 1 (tM 24) (tM 26)),
 oM 29 (.load false 1 false (tM 28)),
 mM 7 29])
 (.ops [mM 30 5,
 mM 31 7,
 oM 32 (.len 0 (tM 31)),
 oM 33 (.bin .add (tM 30) (tM 32)),
 mM 5 33])))
 (.ops [oM 34 (.bin .add (tM 26) (kM (1))),
 mM 26 34])))))))
 (.seq (.seq (.ops [oM 35 (.fieldAddr 2 (tM 1)),
 oM 36 (.load false 1 false (tM 35)),
 oM 37 (.len 0 (tM 36)),
 oM 38 (.bin .gtr (tM 37) (kM (100))),
 mM 39 38,
 gM 40 39 false (.mv (tM 5)),
 gM 41 39 false (.bin .gtr (tM 40) (kM (100))),
 oM 42 (.pick (tM 39) (.const (.bool true)) (tM 41))])
 (.cond (tM 42)
 (.seq (.ops [oM 43 (.build [(.rd 0 [] true),(.rd 0 [] true)] []),
 nM (.store 2 (tM 2) (tM 43)),
 oM 3 (.mv (.const (.int .u16 63)))])
 .ret)
 .skip))
 (.seq (.ops [oM 44 (.load false 3 true (tM 1)),
 oM 45 (.mkmap none),
 oM 46 (.mkmap (some .i64)),
 oM 47 (.build [(.rd 0 [] true),(.rd 0 [] true),(.rd 0 [] true),(.rd 0 [] true),(.rd 0 [] true),(.rd 0 [] true),(.rd 0 [] true),.nilm,.nilm] [(0,3,(tM 44)),(7,1,(tM 45)),(8,1,(tM 46))]),
 oM 48 (.box (tM 47)),
 mM 8 48])
 (.seq (.seq (.ops [oM 49 (.fieldAddr 0 (tM 1)),
 oM 50 (.load false 1 false (tM 49)),
 oM 51 (.len 0 (tM 50)),
 oM 52 (.mv (kM (0)))])
 (.block 2
 (.loop
 (.seq (.ops [oM 53 (.bin .lss (tM 52) (tM 51))])
 (.seq (.cond (tM 53)
 .skip
 (.exit 2))
 (.seq (.block 3
 (.seq (.ops [oM 54 (.indexAddr 1 (tM 50) (tM 52)),
 oM 55 (.load false 1 false (tM 54)),
 mM 10 55])
 (.ops [mM 56 8,
 mM 57 8,
 oM 58 (.nilck (tM 57)),
 oM 59 (.fieldAddr 3 (tM 58)),
 oM 60 (.load false 1 false (tM 59)),
 mM 61 10,
 oM 62 (.call 1 267 [(tM 61)]),
 oM 63 (.lit 1 1 [(.rd 0 [] true)] [(0,1,(tM 62))]),
 oM 64 (.append 1 (tM 60) (tM 63)),
 oM 65 (.nilck (tM 56)),
 oM 66 (.fieldAddr 3 (tM 65)),
 nM (.store 1 (tM 66) (tM 64))])))
 (.ops [oM 67 (.bin .add (tM 52) (kM (1))),
 mM 52 67])))))))
 (.seq (.ops [mM 68 8,
 oM 69 (.call 0 268 [(tM 68),(kM (0))])])
 (.seq (.seq (.ops [oM 11 (.mv (kM (0)))])
 (.block 4
 (.loop
 (.seq (.seq (.ops [mM 70 11,
 mM 71 8,
 oM 72 (.nilck (tM 71)),
 oM 73 (.fieldAddr 6 (tM 72)),
 oM 74 (.load false 1 false (tM 73)),
 oM 75 (.len 0 (tM 74)),
 oM 76 (.bin .lss (tM 70) (tM 75))])
 (.cond (tM 76)
 .skip
 (.exit 4)))
 (.seq (.block 5
 (.seq (.ops [oM 79 (.mv (kM (0)))])
 (.block 6
 (.loop
 (.seq (.ops [oM 80 (.bin .lss (tM 79) (kM (256)))])
 (.seq (.cond (tM 80)
 .skip
 (.exit 6))
 (.seq (.block 7
 (.seq (.ops [mM 81 79,
 mM 12 81])
 (.seq (.ops [mM 82 8,
 mM 83 11,
 mM 84 12,
 oM 85 (.conv .u8 (tM 84)),
 oM 86 (.call 0 269 [(tM 82),(tM 83),(tM 85)]),
 mM 13 86])
 (.ops [mM 87 8,
 oM 88 (.nilck (tM 87)),
 oM 89 (.fieldAddr 4 (tM 88)),
 oM 90 (.fieldAddr 0 (tM 89)),
 oM 91 (.load false 1 false (tM 90)),
 mM 92 11,
 oM 93 (.indexAddr 1 (tM 91) (tM 92)),
 oM 94 (.load false 1 false (tM 93)),
 mM 95 12,
 mM 96 13,
 oM 97 (.indexAddr 1 (tM 94) (tM 95)),
 nM (.store 1 (tM 97) (tM 96))]))))
 (.ops [oM 98 (.bin .add (tM 79) (kM (1))),
 mM 79 98]))))))))
 (.ops [mM 77 11,
 oM 78 (.bin .add (tM 77) (kM (1))),
 mM 11 78]))))))
 (.seq (.ops [mM 99 8,
 oM 100 (.nilck (tM 99)),
 oM 101 (.fieldAddr 4 (tM 100)),
 oM 102 (.load false 2 true (tM 101)),
 oM 103 (.call 0 270 [(tM 102)]),
 nM (.store 2 (tM 2) (tM 103)),
 oM 3 (.mv (.const (.int .u16 0)))])
 .ret)))))))))))⟩
def fE:bN:=⟨[.tmp 3],
 (.seq (.ops [oM 3 (.mv (.const (.bool false)))])
 (.seq (.ops [mM 4 0,
 oM 5 (.bin .lss (tM 4) (kM ((-1)))),
 mM 6 5,
 gM 7 6 false (.mv (tM 0)),
 gM 8 6 false (.load false 1 false (tM 1)),
 gM 9 6 false (.bin .geq (tM 7) (tM 8)),
 oM 10 (.pick (tM 6) (.const (.bool true)) (tM 9)),
 mM 3 10])
 .ret))⟩
def f7:bN:=⟨[.tmp 2],
 (.seq (.ops [oM 1 (.box (tM 0)),
 oM 2 (.mv (.const (.bool false)))])
 (.seq (.ops [oM 7 (.fieldAddr 1 (tM 1)),
 oM 8 (.load false 1 false (tM 7)),
 oM 9 (.len 0 (tM 8)),
 oM 3 (.alloc [(.int .i64 0)]),
 nM (.store 1 (tM 3) (tM 9))])
 (.seq (.seq (.ops [oM 10 (.load false 1 false (tM 3)),
 oM 11 (.bin .eql (tM 10) (kM (0))),
 mM 12 11,
 gM 13 12 false (.load false 1 false (tM 3)),
 gM 14 12 false (.bin .gtr (tM 13) (kM (40000))),
 oM 15 (.pick (tM 12) (.const (.bool true)) (tM 14)),
 mM 16 15,
 gM 17 16 false (.fieldAddr 0 (tM 1)),
 gM 18 16 false (.load false 1 false (tM 17)),
 gM 19 16 false (.len 0 (tM 18)),
 gM 20 16 false (.load false 1 false (tM 3)),
 gM 21 16 false (.bin .neq (tM 19) (tM 20)),
 oM 22 (.pick (tM 16) (.const (.bool true)) (tM 21))])
 (.cond (tM 22)
 (.seq (.ops [oM 2 (.mv (.const (.bool false)))])
 .ret)
 .skip))
 (.seq (.ops [oM 23 (.mkfn 274 [(tM 3)]),
 mM 4 23])
 (.seq (.seq (.ops [oM 24 (.fieldAddr 0 (tM 1)),
 oM 25 (.load false 1 false (tM 24)),
 oM 26 (.len 0 (tM 25)),
 oM 27 (.mv (kM (0)))])
 (.block 0
 (.loop
 (.seq (.ops [oM 28 (.bin .lss (tM 27) (tM 26))])
 (.seq (.cond (tM 28)
 .skip
 (.exit 0))
 (.seq (.block 1
 (.seq (.ops [mM 29 27,
 oM 30 (.indexAddr 1 (tM 25) (tM 27)),
 oM 31 (.load false 1 false (tM 30)),
 mM 5 29,
 mM 6 31])
 (.seq (.ops [mM 32 6,
 oM 33 (.len 0 (tM 32)),
 oM 34 (.bin .neq (tM 33) (kM (256))),
 mM 35 34,
 gM 36 35 false (.fieldAddr 1 (tM 1)),
 gM 37 35 false (.load false 1 false (tM 36)),
 gM 38 35 false (.mv (tM 5)),
 gM 39 35 false (.indexAddr 1 (tM 37) (tM 38)),
 gM 40 35 false (.load false 1 false (tM 39)),
 gM 41 35 false (.bin .lss (tM 40) (kM ((-1)))),
 oM 42 (.pick (tM 35) (.const (.bool true)) (tM 41)),
 mM 43 42,
 gM 44 43 false (.mv (tM 6)),
 gM 45 43 false (.mv (tM 4)),
 gM 46 43 false (.call 0 40 [(tM 44),(tM 45)]),
 oM 47 (.pick (tM 43) (.const (.bool true)) (tM 46))])
 (.cond (tM 47)
 (.seq (.ops [oM 2 (.mv (.const (.bool false)))])
 .ret)
 .skip))))
 (.ops [oM 48 (.bin .add (tM 27) (kM (1))),
 mM 27 48])))))))
 (.seq (.ops [oM 2 (.mv (.const (.bool true)))])
 .ret))))))⟩
def fF:bN:=⟨[.tmp 4,.tmp 5],
 (.seq (.ops [oM 2 (.box (tM 0)),
 oM 4 (.mv (kM (0))),
 oM 5 (.mv (kM (0)))])
 (.seq (.ops [oM 6 (.mv (kM (0))),
 oM 7 (.mv (kM ((-1))))])
 (.seq (.seq (.ops [oM 11 (.load false 2 true (tM 2)),
 oM 12 (.call 0 263 [(tM 11)]),
 oM 13 (.un .not (tM 12))])
 (.cond (tM 13)
 (.seq (.ops [mM 14 6,
 mM 15 7,
 mM 4 14,
 mM 5 15])
 .ret)
 .skip))
 (.seq (.ops [oM 8 (.mv (kM (0)))])
 (.seq (.seq (.ops [mM 16 1,
 oM 17 (.len 0 (tM 16)),
 oM 18 (.mv (kM (0)))])
 (.block 0
 (.loop
 (.seq (.ops [oM 19 (.bin .lss (tM 18) (tM 17))])
 (.seq (.cond (tM 19)
 .skip
 (.exit 0))
 (.seq (.block 1
 (.seq (.ops [mM 20 18,
 oM 21 (.indexAddr 1 (tM 16) (tM 18)),
 oM 22 (.load false 1 false (tM 21)),
 mM 9 20,
 mM 10 22])
 (.seq (.seq (.ops [oM 23 (.fieldAddr 0 (tM 2)),
 oM 24 (.load false 1 false (tM 23)),
 mM 25 8,
 oM 26 (.indexAddr 1 (tM 24) (tM 25)),
 oM 27 (.load false 1 false (tM 26)),
 mM 28 10,
 oM 29 (.indexAddr 1 (tM 27) (tM 28)),
 oM 30 (.load false 1 false (tM 29)),
 mM 8 30])
 (.seq (.ops [mM 31 8,
 oM 32 (.bin .eql (tM 31) (kM ((-1))))])
 (.cond (tM 32)
 (.exit 0)
 .skip)))
 (.seq (.ops [oM 33 (.fieldAddr 1 (tM 2)),
 oM 34 (.load false 1 false (tM 33)),
 mM 35 8,
 oM 36 (.indexAddr 1 (tM 34) (tM 35)),
 oM 37 (.load false 1 false (tM 36)),
 oM 38 (.bin .geq (tM 37) (kM (0)))])
 (.cond (tM 38)
 (.ops [mM 39 9,
 oM 40 (.bin .add (tM 39) (kM (1))),
 oM 41 (.fieldAddr 1 (tM 2)),
 oM 42 (.load false 1 false (tM 41)),
 mM 43 8,
 oM 44 (.indexAddr 1 (tM 42) (tM 43)),
 oM 45 (.load false 1 false (tM 44)),
 mM 6 40,
 mM 7 45])
 .skip)))))
 (.ops [oM 46 (.bin .add (tM 18) (kM (1))),
 mM 18 46])))))))
 (.seq (.ops [mM 47 6,
 mM 48 7,
 mM 4 47,
 mM 5 48])
 .ret))))))⟩
def dW:bN:=⟨[.cell 2 3 true],
 (.seq (.ops [oM 2 (.alloc [(.rd 0 [] true),(.rd 0 [] true),(.rd 0 [] true)])])
 (.seq (.ops [mM 3 0,
 mM 4 0,
 oM 5 (.build [(.int .i64 0),(.int .i64 0)] [(0,1,(tM 3)),(1,1,(tM 4))]),
 oM 6 (.lit 2 1 [(.int .i64 0),(.int .i64 0)] [(0,2,(tM 5))]),
 oM 7 (.lit 1 1 [(.rd 0 [] true)] [(0,1,(tM 6))]),
 oM 8 (.lit 1 1 [(.int .i64 0)] [(0,1,(kM (1)))]),
 oM 9 (.lit 1 1 [(.int .i64 0)] [(0,1,(kM ((-1))))]),
 oM 10 (.lit 1 2 [(.rd 0 [] true),(.rd 0 [] true)] [(0,1,(tM 8)),(1,1,(tM 9))]),
 oM 11 (.lit 1 2 [(.int .i64 0),(.int .i64 0)] [(0,1,(kM ((-1)))),(1,1,(kM (5)))]),
 oM 12 (.build [(.rd 0 [] true),(.rd 0 [] true),(.rd 0 [] true)] [(0,1,(tM 7)),(1,1,(tM 10)),(2,1,(tM 11))]),
 nM (.store 3 (tM 2) (tM 12))])
 .ret))⟩
def dD:bN:=⟨[.tmp 0],
 (.seq (.ops [oM 0 (.mv (.const (.bool false)))])
 (.seq (.ops [oM 8 (.call 0 266 [(kM (233))]),
 oM 9 (.call 0 258 [(tM 8)]),
 mM 7 9,
 oM 10 (.extract (tM 7) 0),
 oM 11 (.extract (tM 7) 1),
 oM 1 (.alloc [(.rd 0 [] true),(.rd 0 [] true)]),
 nM (.store 2 (tM 1) (tM 10)),
 mM 2 11])
 (.seq (.ops [oM 13 (.build [(.rd 0 [] true),(.rd 0 [] true),(.rd 0 [] true)] []),
 oM 14 (.call 0 258 [(tM 13)]),
 mM 12 14,
 oM 15 (.extract (tM 12) 0),
 oM 16 (.extract (tM 12) 1),
 oM 3 (.alloc [(.rd 0 [] true),(.rd 0 [] true)]),
 nM (.store 2 (tM 3) (tM 15)),
 mM 4 16])
 (.seq (.ops [oM 18 (.load false 2 true (tM 1)),
 oM 19 (.lit 1 3 [(.int .u8 0),(.int .u8 0),(.int .u8 0)] [(0,1,(.const (.int .u8 195))),(1,1,(.const (.int .u8 169))),(2,1,(.const (.int .u8 65)))]),
 oM 20 (.call 0 262 [(tM 18),(tM 19)]),
 mM 17 20,
 oM 21 (.extract (tM 17) 0),
 oM 22 (.extract (tM 17) 1),
 mM 5 21,
 mM 6 22])
 (.seq (.ops [mM 23 2,
 oM 24 (.bin .eql (tM 23) (.const (.int .u16 0))),
 mM 25 24,
 gM 26 25 true (.mv (tM 4)),
 gM 27 25 true (.bin .eql (tM 26) (.const (.int .u16 1))),
 oM 28 (.pick (tM 25) (tM 27) (.const (.bool false))),
 mM 29 28,
 gM 30 29 true (.load false 2 true (tM 1)),
 gM 31 29 true (.call 0 263 [(tM 30)]),
 oM 32 (.pick (tM 29) (tM 31) (.const (.bool false))),
 mM 33 32,
 gM 34 33 true (.fieldAddr 1 (tM 1)),
 gM 35 33 true (.load false 1 false (tM 34)),
 gM 36 33 true (.len 0 (tM 35)),
 gM 37 33 true (.bin .eql (tM 36) (kM (3))),
 oM 38 (.pick (tM 33) (tM 37) (.const (.bool false))),
 mM 39 38,
 gM 40 39 true (.fieldAddr 0 (tM 1)),
 gM 41 39 true (.load false 1 false (tM 40)),
 gM 42 39 true (.indexAddr 1 (tM 41) (kM (0))),
 gM 43 39 true (.load false 1 false (tM 42)),
 gM 44 39 true (.indexAddr 1 (tM 43) (kM (195))),
 gM 45 39 true (.load false 1 false (tM 44)),
 gM 46 39 true (.bin .eql (tM 45) (kM (1))),
 oM 47 (.pick (tM 39) (tM 46) (.const (.bool false))),
 mM 48 47,
 gM 49 48 true (.fieldAddr 0 (tM 1)),
 gM 50 48 true (.load false 1 false (tM 49)),
 gM 51 48 true (.indexAddr 1 (tM 50) (kM (1))),
 gM 52 48 true (.load false 1 false (tM 51)),
 gM 53 48 true (.indexAddr 1 (tM 52) (kM (169))),
 gM 54 48 true (.load false 1 false (tM 53)),
 gM 55 48 true (.bin .eql (tM 54) (kM (2))),
 oM 56 (.pick (tM 48) (tM 55) (.const (.bool false))),
 mM 57 56,
 gM 58 57 true (.mv (tM 5)),
 gM 59 57 true (.bin .eql (tM 58) (kM (2))),
 oM 60 (.pick (tM 57) (tM 59) (.const (.bool false))),
 mM 61 60,
 gM 62 61 true (.mv (tM 6)),
 gM 63 61 true (.bin .eql (tM 62) (kM (5))),
 oM 64 (.pick (tM 61) (tM 63) (.const (.bool false))),
 mM 65 64,
 gM 66 65 true (.build [(.rd 0 [] true),(.rd 0 [] true)] []),
 gM 67 65 true (.call 0 263 [(tM 66)]),
 gM 68 65 true (.un .not (tM 67)),
 oM 69 (.pick (tM 65) (tM 68) (.const (.bool false))),
 mM 0 69])
 .ret)))))⟩
def cQ:bN:=⟨[.tmp 10],
 (.seq (.ops [oM 10 (.mv (.const (.bool false)))])
 (.seq (.seq (.ops [mM 25 4,
 oM 26 (.len 0 (tM 25)),
 oM 27 (.bin .gtr (tM 26) (kM (30))),
 mM 28 27,
 gM 29 28 false (.call 0 259 []),
 gM 30 28 false (.un .not (tM 29)),
 oM 31 (.pick (tM 28) (.const (.bool true)) (tM 30))])
 (.cond (tM 31)
 (.seq (.ops [oM 32 (.call 0 259 []),
 mM 10 32])
 .ret)
 .skip))
 (.seq (.ops [mM 33 0,
 mM 34 1,
 mM 35 2,
 mM 36 3,
 oM 37 (.call 0 156 [(tM 33),(tM 34),(tM 35),(tM 36)]),
 oM 11 (.alloc [(.rd 0 [] true),(.rd 0 [] true),(.rd 0 [] true)]),
 nM (.store 3 (tM 11) (tM 37))])
 (.seq (.ops [oM 39 (.load false 3 true (tM 11)),
 oM 40 (.call 0 258 [(tM 39)]),
 mM 38 40,
 oM 41 (.extract (tM 38) 0),
 oM 42 (.extract (tM 38) 1),
 oM 12 (.alloc [(.rd 0 [] true),(.rd 0 [] true)]),
 nM (.store 2 (tM 12) (tM 41)),
 mM 13 42])
 (.seq (.seq (.ops [mM 43 13,
 oM 44 (.bin .neq (tM 43) (.const (.int .u16 0)))])
 (.cond (tM 44)
 (.seq (.ops [mM 45 13,
 oM 46 (.bin .eql (tM 45) (.const (.int .u16 63))),
 mM 10 46])
 .ret)
 .skip))
 (.seq (.ops [oM 14 (.mv (.const (.rd 0 [] true)))])
 (.seq (.ops [oM 15 (.mv (.const (.rd 0 [] true)))])
 (.seq (.seq (.ops [oM 16 (.mv (kM (0)))])
 (.block 0
 (.loop
 (.seq (.seq (.ops [mM 47 16,
 mM 48 4,
 oM 49 (.len 0 (tM 48)),
 oM 50 (.bin .lss (tM 47) (tM 49))])
 (.cond (tM 50)
 .skip
 (.exit 0)))
 (.seq (.block 1
 (.seq (.ops [mM 53 4,
 mM 54 16,
 oM 55 (.indexAddr 1 (tM 53) (tM 54)),
 oM 56 (.load false 1 false (tM 55)),
 oM 57 (.lit 1 2 [(.int .u16 0),(.int .u16 0)] [(0,1,(tM 56)),(1,1,(.const (.int .u16 0)))]),
 oM 58 (.call 0 22 [(tM 57)]),
 oM 59 (.indexAddr 2 (tM 58) (kM (0))),
 oM 60 (.fieldAddr 0 (tM 59)),
 oM 61 (.load false 1 false (tM 60)),
 mM 17 61])
 (.seq (.ops [mM 62 17,
 oM 63 (.call 0 245 [(tM 62)]),
 mM 18 63])
 (.seq (.seq (.ops [mM 64 18,
 oM 65 (.len 0 (tM 64)),
 oM 66 (.bin .eql (tM 65) (kM (0)))])
 (.cond (tM 66)
 (.exit 1)
 .skip))
 (.seq (.ops [mM 67 14,
 mM 68 17,
 oM 69 (.lit 1 1 [(.int .i64 0)] [(0,1,(tM 68))]),
 oM 70 (.append 1 (tM 67) (tM 69)),
 mM 14 70])
 (.ops [mM 71 15,
 mM 72 18,
 oM 73 (.append 1 (tM 71) (tM 72)),
 mM 15 73]))))))
 (.ops [mM 51 16,
 oM 52 (.bin .add (tM 51) (kM (1))),
 mM 16 52]))))))
 (.seq (.ops [oM 75 (.load false 3 true (tM 11)),
 mM 76 14,
 oM 77 (.call 0 158 [(tM 75),(tM 76)]),
 mM 74 77,
 oM 78 (.extract (tM 74) 0),
 oM 79 (.extract (tM 74) 1),
 mM 19 78,
 mM 20 79])
 (.seq (.ops [oM 21 (.mv (kM (0)))])
 (.seq (.seq (.ops [oM 22 (.mv (kM (0)))])
 (.block 2
 (.loop
 (.seq (.seq (.ops [mM 80 22,
 mM 81 19,
 oM 82 (.bin .lss (tM 80) (tM 81))])
 (.cond (tM 82)
 .skip
 (.exit 2)))
 (.seq (.block 3
 (.ops [mM 85 21,
 mM 86 14,
 mM 87 22,
 oM 88 (.indexAddr 1 (tM 86) (tM 87)),
 oM 89 (.load false 1 false (tM 88)),
 oM 90 (.call 0 245 [(tM 89)]),
 oM 91 (.len 0 (tM 90)),
 oM 92 (.bin .add (tM 85) (tM 91)),
 mM 21 92]))
 (.ops [mM 83 22,
 oM 84 (.bin .add (tM 83) (kM (1))),
 mM 22 84]))))))
 (.seq (.ops [oM 94 (.load false 2 true (tM 12)),
 mM 95 15,
 oM 96 (.call 0 262 [(tM 94),(tM 95)]),
 mM 93 96,
 oM 97 (.extract (tM 93) 0),
 oM 98 (.extract (tM 93) 1),
 mM 23 97,
 mM 24 98])
 (.seq (.ops [oM 99 (.load false 2 true (tM 12)),
 oM 100 (.call 0 263 [(tM 99)]),
 mM 101 100,
 gM 102 101 true (.mv (tM 23)),
 gM 103 101 true (.mv (tM 21)),
 gM 104 101 true (.bin .eql (tM 102) (tM 103)),
 oM 105 (.pick (tM 101) (tM 104) (.const (.bool false))),
 mM 106 105,
 gM 107 106 true (.mv (tM 24)),
 gM 108 106 true (.mv (tM 20)),
 gM 109 106 true (.bin .eql (tM 107) (tM 108)),
 oM 110 (.pick (tM 106) (tM 109) (.const (.bool false))),
 mM 10 110])
 .ret)))))))))))))⟩
structure fh (Φ:Lib):Prop where
 f277:Φ 277=some (.code gv)
 f294:Φ 294=some (.code gu)
 f295:Φ 295=some (.code fY)
 f307:Φ 307=some (.code d8)
 f293:Φ 293=some (.code f0)
 f292:Φ 292=some (.code gB)
 f275:Φ 275=some (.code gC)
 f290:Φ 290=some (.code fS)
 f291:Φ 291=some (.code bR)
 f276:Φ 276=some (.code f4)
 f267:Φ 267=some (.code iZ)
 f296:Φ 296=some (.code fQ)
 f308:Φ 308=some (.code lr)
 f314:Φ 314=some (.code kj)
 f297:Φ 297=some (.code gD)
 f278:Φ 278=some (.code eC)
 f268:Φ 268=some (.code dX)
 f279:Φ 279=some (.code ef)
 f269:Φ 269=some (.code ee)
 f280:Φ 280=some (.code f6)
 f270:Φ 270=some (.code fD)
 f258:Φ 258=some (.code iE)
 f274:Φ 274=some (.code fE)
 f263:Φ 263=some (.code f7)
 f262:Φ 262=some (.code fF)
 f266:Φ 266=some (.code dW)
 f259:Φ 259=some (.code dD)
 f254:Φ 254=some (.code cQ)
end
section
open Go
def dv:bN:=⟨[.tmp 2],
 (.seq (.ops [oM 2 (.mv (.const (.rd 0 [] true)))])
 (.seq (.seq (.ops [mM 3 0,
 oM 4 (.bin .lss (tM 3) (kM (0))),
 mM 5 4,
 gM 6 5 false (.mv (tM 0)),
 gM 7 5 false (.bin .gtr (tM 6) (kM (1114111))),
 oM 8 (.pick (tM 5) (.const (.bool true)) (tM 7)),
 mM 9 8,
 gM 10 9 false (.mv (tM 0)),
 gM 11 9 false (.bin .geq (tM 10) (kM (55296))),
 gM 12 9 false (.mv (tM 11)),
 gM 13 12 true (.mv (tM 0)),
 gM 14 12 true (.bin .leq (tM 13) (kM (57343))),
 gM 15 9 false (.pick (tM 12) (tM 14) (.const (.bool false))),
 oM 16 (.pick (tM 9) (.const (.bool true)) (tM 15))])
 (.cond (tM 16)
 (.seq (.ops [oM 2 (.mv (.const (.rd 0 [] true)))])
 .ret)
 .skip))
 (.seq (.seq (.ops [mM 17 0,
 oM 18 (.bin .lss (tM 17) (kM (128)))])
 (.cond (tM 18)
 (.seq (.ops [mM 19 0,
 oM 20 (.conv .u8 (tM 19)),
 oM 21 (.lit 1 1 [(.int .u8 0)] [(0,1,(tM 20))]),
 mM 2 21])
 .ret)
 .skip))
 (.seq (.seq (.ops [mM 22 0,
 oM 23 (.bin .lss (tM 22) (kM (2048)))])
 (.cond (tM 23)
 (.seq (.ops [mM 24 0,
 oM 25 (.bin .quo (tM 24) (kM (64))),
 oM 26 (.bin .add (kM (192)) (tM 25)),
 oM 27 (.conv .u8 (tM 26)),
 mM 28 0,
 oM 29 (.bin .rem (tM 28) (kM (64))),
 oM 30 (.bin .add (kM (128)) (tM 29)),
 oM 31 (.conv .u8 (tM 30)),
 oM 32 (.lit 1 2 [(.int .u8 0),(.int .u8 0)] [(0,1,(tM 27)),(1,1,(tM 31))]),
 mM 2 32])
 .ret)
 .skip))
 (.seq (.seq (.ops [mM 33 0,
 oM 34 (.bin .lss (tM 33) (kM (65536)))])
 (.cond (tM 34)
 (.seq (.ops [mM 35 0,
 oM 36 (.bin .quo (tM 35) (kM (4096))),
 oM 37 (.bin .add (kM (224)) (tM 36)),
 oM 38 (.conv .u8 (tM 37)),
 mM 39 0,
 oM 40 (.bin .quo (tM 39) (kM (64))),
 oM 41 (.bin .rem (tM 40) (kM (64))),
 oM 42 (.bin .add (kM (128)) (tM 41)),
 oM 43 (.conv .u8 (tM 42)),
 mM 44 0,
 oM 45 (.bin .rem (tM 44) (kM (64))),
 oM 46 (.bin .add (kM (128)) (tM 45)),
 oM 47 (.conv .u8 (tM 46)),
 oM 48 (.lit 1 3 [(.int .u8 0),(.int .u8 0),(.int .u8 0)] [(0,1,(tM 38)),(1,1,(tM 43)),(2,1,(tM 47))]),
 mM 2 48])
 .ret)
 .skip))
 (.seq (.ops [mM 49 0,
 oM 50 (.bin .quo (tM 49) (kM (262144))),
 oM 51 (.bin .add (kM (240)) (tM 50)),
 oM 52 (.conv .u8 (tM 51)),
 mM 53 0,
 oM 54 (.bin .quo (tM 53) (kM (4096))),
 oM 55 (.bin .rem (tM 54) (kM (64))),
 oM 56 (.bin .add (kM (128)) (tM 55)),
 oM 57 (.conv .u8 (tM 56)),
 mM 58 0,
 oM 59 (.bin .quo (tM 58) (kM (64))),
 oM 60 (.bin .rem (tM 59) (kM (64))),
 oM 61 (.bin .add (kM (128)) (tM 60)),
 oM 62 (.conv .u8 (tM 61)),
 mM 63 0,
 oM 64 (.bin .rem (tM 63) (kM (64))),
 oM 65 (.bin .add (kM (128)) (tM 64)),
 oM 66 (.conv .u8 (tM 65)),
 oM 67 (.lit 1 4 [(.int .u8 0),(.int .u8 0),(.int .u8 0),(.int .u8 0)] [(0,1,(tM 52)),(1,1,(tM 57)),(2,1,(tM 62)),(3,1,(tM 66))]),
 mM 2 67])
 .ret))))))⟩
structure CO (Φ:Lib):Prop where
 f245:Φ 245=some (.code dv)
end
end Go.Proofs.YtlnobeojgifojaaGreatDoor
