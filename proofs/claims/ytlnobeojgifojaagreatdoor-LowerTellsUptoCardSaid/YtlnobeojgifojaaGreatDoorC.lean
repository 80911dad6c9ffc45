/- The abstract machine's code of some functions. -/
import Derived.Test.YtlnobeojgifojaaGreatDoorB2
namespace Go.Proofs.YtlnobeojgifojaaGreatDoor
section
open Go
def eA:bN:=⟨[.tmp 4],
 (.seq (.ops [oM 4 (.mv (.const (.bool false)))])
 (.seq (.ops [mM 5 0,
 mM 6 1,
 oM 7 (.call 0 52 [(tM 5),(tM 6)]),
 oM 8 (.bin .geq (tM 7) (kM (0))),
 mM 4 8])
 .ret))⟩
def dG:bN:=⟨[.tmp 4],
 (.seq (.ops [oM 4 (.mv (kM (0)))])
 (.seq (.seq (.ops [mM 6 0,
 oM 7 (.len 0 (tM 6)),
 oM 8 (.mv (kM (0)))])
 (.block 0
 (.loop
 (.seq (.ops [oM 9 (.bin .lss (tM 8) (tM 7))])
 (.seq (.cond (tM 9)
 .skip
 (.exit 0))
 (.seq (.block 1
 (.seq (.ops [mM 10 8,
 mM 5 10])
 (.seq (.ops [mM 11 1,
 mM 12 0,
 mM 13 5,
 oM 14 (.indexAddr 1 (tM 12) (tM 13)),
 oM 15 (.load false 1 false (tM 14)),
 oM 16 (.callv 0 (tM 11) [(tM 15)])])
 (.cond (tM 16)
 (.seq (.ops [mM 17 5,
 mM 4 17])
 .ret)
 .skip))))
 (.ops [oM 18 (.bin .add (tM 8) (kM (1))),
 mM 8 18])))))))
 (.seq (.ops [oM 4 (.mv (kM ((-1))))])
 .ret)))⟩
def iD:bN:=⟨[.tmp 2],
 (.seq (.ops [oM 2 (.mv (.const (.rd 0 [] true)))])
 (.seq (.ops [oM 3 (.mv (.const (.rd 0 [] true))),
 oM 4 (.mv (.const (.rd 0 [] true)))])
 (.seq (.seq (.ops [mM 10 0,
 oM 11 (.len 0 (tM 10)),
 oM 12 (.mv (kM (0)))])
 (.block 0
 (.loop
 (.seq (.ops [oM 13 (.bin .lss (tM 12) (tM 11))])
 (.seq (.cond (tM 13)
 .skip
 (.exit 0))
 (.seq (.block 1
 (.seq (.ops [oM 14 (.indexAddr 2 (tM 10) (tM 12)),
 oM 15 (.load false 2 true (tM 14)),
 oM 6 (.alloc [(.int .i64 0),(.int .i64 0)]),
 nM (.store 2 (tM 6) (tM 15))])
 (.ops [mM 16 3,
 oM 17 (.load false 2 true (tM 6)),
 oM 18 (.call 0 47 [(tM 17)]),
 oM 19 (.call 0 46 [(tM 16),(tM 18)]),
 mM 3 19])))
 (.ops [oM 20 (.bin .add (tM 12) (kM (1))),
 mM 12 20])))))))
 (.seq (.ops [mM 21 3,
 oM 22 (.call 0 48 [(tM 21),(.const (.fn 49 []))])])
 (.seq .skip
 (.seq (.seq (.ops [mM 23 3,
 oM 24 (.len 0 (tM 23)),
 oM 25 (.mv (kM (0)))])
 (.block 2
 (.loop
 (.seq (.ops [oM 26 (.bin .lss (tM 25) (tM 24))])
 (.seq (.cond (tM 26)
 .skip
 (.exit 2))
 (.seq (.block 3
 (.seq (.ops [oM 27 (.indexAddr 2 (tM 23) (tM 25)),
 oM 28 (.load false 2 true (tM 27)),
 oM 8 (.alloc [(.int .i64 0),(.int .i64 0)]),
 nM (.store 2 (tM 8) (tM 28))])
 (.seq (.seq (.ops [mM 29 4,
 oM 30 (.len 0 (tM 29)),
 mM 9 30])
 (.seq (.ops [mM 31 9,
 oM 32 (.bin .gtr (tM 31) (kM (0))),
 mM 33 32,
 gM 34 33 true (.fieldAddr 0 (tM 8)),
 gM 35 33 true (.load false 1 false (tM 34)),
 gM 36 33 true (.mv (tM 4)),
 gM 37 33 true (.mv (tM 9)),
 gM 38 33 true (.bin .sub (tM 37) (kM (1))),
 gM 39 33 true (.indexAddr 2 (tM 36) (tM 38)),
 gM 40 33 true (.fieldAddr 1 (tM 39)),
 gM 41 33 true (.load false 1 false (tM 40)),
 gM 42 33 true (.bin .add (tM 41) (kM (1))),
 gM 43 33 true (.bin .leq (tM 35) (tM 42)),
 oM 44 (.pick (tM 33) (tM 43) (.const (.bool false)))])
 (.cond (tM 44)
 (.seq (.ops [mM 45 4,
 mM 46 9,
 oM 47 (.bin .sub (tM 46) (kM (1))),
 mM 48 4,
 mM 49 9,
 oM 50 (.bin .sub (tM 49) (kM (1))),
 oM 51 (.indexAddr 2 (tM 48) (tM 50)),
 oM 52 (.fieldAddr 1 (tM 51)),
 oM 53 (.load false 1 false (tM 52)),
 oM 54 (.fieldAddr 1 (tM 8)),
 oM 55 (.load false 1 false (tM 54)),
 oM 56 (.mx [(tM 53),(tM 55)]),
 oM 57 (.indexAddr 2 (tM 45) (tM 47)),
 oM 58 (.fieldAddr 1 (tM 57)),
 nM (.store 1 (tM 58) (tM 56))])
 (.exit 3))
 .skip)))
 (.ops [mM 59 4,
 oM 60 (.load false 2 true (tM 8)),
 oM 61 (.lit 2 1 [(.int .i64 0),(.int .i64 0)] [(0,2,(tM 60))]),
 oM 62 (.append 2 (tM 59) (tM 61)),
 mM 4 62]))))
 (.ops [oM 63 (.bin .add (tM 25) (kM (1))),
 mM 25 63])))))))
 (.seq (.ops [mM 64 4,
 mM 2 64])
 .ret)))))))⟩
def gA:bN:=⟨[.tmp 2],
 (.seq (.ops [oM 1 (.box (tM 0)),
 oM 2 (.mv (.const .nilf))])
 (.seq (.ops [oM 3 (.mkfn 59 [(tM 1)]),
 mM 2 3])
 .ret))⟩
def fR:bN:=⟨[],
 (.seq (.ops [oM 7 (.fieldAddr 0 (tM 1)),
 oM 8 (.load false 1 false (tM 7)),
 oM 9 (.mx [(tM 8),(kM (0))]),
 oM 10 (.fieldAddr 1 (tM 1)),
 oM 11 (.load false 1 false (tM 10)),
 oM 12 (.mn [(tM 11),(kM (55295))]),
 oM 13 (.build [(.int .i64 0),(.int .i64 0)] [(0,1,(tM 9)),(1,1,(tM 12))]),
 oM 3 (.alloc [(.int .i64 0),(.int .i64 0)]),
 nM (.store 2 (tM 3) (tM 13))])
 (.seq (.ops [oM 14 (.fieldAddr 0 (tM 1)),
 oM 15 (.load false 1 false (tM 14)),
 oM 16 (.mx [(tM 15),(kM (57344))]),
 oM 17 (.fieldAddr 1 (tM 1)),
 oM 18 (.load false 1 false (tM 17)),
 oM 19 (.mn [(tM 18),(kM (1114111))]),
 oM 20 (.build [(.int .i64 0),(.int .i64 0)] [(0,1,(tM 16)),(1,1,(tM 19))]),
 oM 4 (.alloc [(.int .i64 0),(.int .i64 0)]),
 nM (.store 2 (tM 4) (tM 20))])
 (.seq (.ops [oM 21 (.load false 2 true (tM 3)),
 oM 22 (.load false 2 true (tM 4)),
 oM 23 (.build [(.int .i64 0),(.int .i64 0),(.int .i64 0),(.int .i64 0)] [(0,2,(tM 21)),(2,2,(tM 22))]),
 oM 24 (.mv (kM (0)))])
 (.block 0
 (.loop
 (.seq (.ops [oM 25 (.bin .lss (tM 24) (kM (2)))])
 (.seq (.cond (tM 25)
 .skip
 (.exit 0))
 (.seq (.block 1
 (.seq (.ops [oM 26 (.indexA 2 2 true (tM 23) (tM 24)),
 oM 6 (.alloc [(.int .i64 0),(.int .i64 0)]),
 nM (.store 2 (tM 6) (tM 26))])
 (.seq (.ops [oM 27 (.fieldAddr 0 (tM 6)),
 oM 28 (.load false 1 false (tM 27)),
 oM 29 (.fieldAddr 1 (tM 6)),
 oM 30 (.load false 1 false (tM 29)),
 oM 31 (.bin .leq (tM 28) (tM 30)),
 mM 32 31,
 gM 33 32 true (.mv (tM 0)),
 gM 34 32 true (.load false 2 true (tM 6)),
 gM 35 32 true (.callv 0 (tM 33) [(tM 34)]),
 gM 36 32 true (.un .not (tM 35)),
 oM 37 (.pick (tM 32) (tM 36) (.const (.bool false)))])
 (.cond (tM 37)
 .ret
 .skip))))
 (.ops [oM 38 (.bin .add (tM 24) (kM (1))),
 mM 24 38])))))))))⟩
def bQ:bN:=⟨[.tmp 4],
 (.seq (.ops [oM 2 (.box (tM 0)),
 oM 4 (.mv (.const (.rd 0 [] true)))])
 (.seq (.seq (.ops [mM 6 1])
 (.block 0
 (.rangef (tM 6) [7]
 (.ops [oM 5 (.alloc [(.int .i64 0),(.int .i64 0)]),
 nM (.store 2 (tM 5) (tM 7))])
 (.block 1
 (.ops [oM 8 (.load false 1 false (tM 2)),
 oM 9 (.load false 2 true (tM 5)),
 oM 10 (.lit 2 1 [(.int .i64 0),(.int .i64 0)] [(0,2,(tM 9))]),
 oM 11 (.append 2 (tM 8) (tM 10)),
 nM (.store 1 (tM 2) (tM 11))])))))
 (.seq (.ops [oM 12 (.load false 1 false (tM 2)),
 mM 4 12])
 .ret)))⟩
def bX:bN:=⟨[.tmp 4],
 (.seq (.ops [oM 4 (.mv (.const (.bool false)))])
 (.seq (.seq (.ops [mM 6 0,
 oM 7 (.len 0 (tM 6)),
 mM 8 1,
 oM 9 (.len 0 (tM 8)),
 oM 10 (.bin .neq (tM 7) (tM 9))])
 (.cond (tM 10)
 (.seq (.ops [oM 4 (.mv (.const (.bool false)))])
 .ret)
 .skip))
 (.seq (.seq (.ops [mM 11 0,
 oM 12 (.len 0 (tM 11)),
 oM 13 (.mv (kM (0)))])
 (.block 0
 (.loop
 (.seq (.ops [oM 14 (.bin .lss (tM 13) (tM 12))])
 (.seq (.cond (tM 14)
 .skip
 (.exit 0))
 (.seq (.block 1
 (.seq (.ops [mM 15 13,
 mM 5 15])
 (.seq (.ops [mM 16 0,
 mM 17 5,
 oM 18 (.indexAddr 2 (tM 16) (tM 17)),
 oM 19 (.load false 2 true (tM 18)),
 mM 20 1,
 mM 21 5,
 oM 22 (.indexAddr 2 (tM 20) (tM 21)),
 oM 23 (.load false 2 true (tM 22)),
 oM 24 (.eqS true 2 (tM 19) (tM 23))])
 (.cond (tM 24)
 (.seq (.ops [oM 4 (.mv (.const (.bool false)))])
 .ret)
 .skip))))
 (.ops [oM 25 (.bin .add (tM 13) (kM (1))),
 mM 13 25])))))))
 (.seq (.ops [oM 4 (.mv (.const (.bool true)))])
 .ret))))⟩
structure il (Φ:Lib):Prop where
 f40:Φ 40=some (.code eA)
 f52:Φ 52=some (.code dG)
 f38:Φ 38=some (.code iD)
 f47:Φ 47=some (.code gA)
 f59:Φ 59=some (.code fR)
 f46:Φ 46=some (.code bQ)
 f37:Φ 37=some (.code bX)
end
section
open Go
def dw:bN:=⟨[.tmp 2],
 (.seq (.ops [oM 2 (.mv (.const (.bool false)))])
 (.seq (.ops [mM 3 0,
 oM 4 (.bin .geq (tM 3) (kM (0))),
 mM 5 4,
 gM 6 5 true (.mv (tM 0)),
 gM 7 5 true (.bin .leq (tM 6) (kM (1114111))),
 oM 8 (.pick (tM 5) (tM 7) (.const (.bool false))),
 mM 9 8,
 gM 10 9 true (.mv (tM 0)),
 gM 11 9 true (.bin .lss (tM 10) (kM (55296))),
 gM 12 9 true (.mv (tM 11)),
 gM 13 12 false (.mv (tM 0)),
 gM 14 12 false (.bin .gtr (tM 13) (kM (57343))),
 gM 15 9 true (.pick (tM 12) (.const (.bool true)) (tM 14)),
 oM 16 (.pick (tM 9) (tM 15) (.const (.bool false))),
 mM 2 16])
 .ret))⟩
def dV:bN:=⟨[.tmp 4],
 (.seq (.ops [oM 4 (.mv (.const (.bool false)))])
 (.seq (.seq (.ops [oM 5 (.mv (kM (0)))])
 (.block 0
 (.loop
 (.seq (.seq (.ops [mM 6 5,
 mM 7 0,
 oM 8 (.len 0 (tM 7)),
 oM 9 (.bin .lss (tM 6) (tM 8))])
 (.cond (tM 9)
 .skip
 (.exit 0)))
 (.seq (.block 1
 (.seq (.ops [mM 12 1,
 mM 13 0,
 mM 14 5,
 oM 15 (.indexAddr 2 (tM 13) (tM 14)),
 oM 16 (.fieldAddr 0 (tM 15)),
 oM 17 (.load false 1 false (tM 16)),
 oM 18 (.bin .geq (tM 12) (tM 17)),
 mM 19 18,
 gM 20 19 true (.mv (tM 1)),
 gM 21 19 true (.mv (tM 0)),
 gM 22 19 true (.mv (tM 5)),
 gM 23 19 true (.indexAddr 2 (tM 21) (tM 22)),
 gM 24 19 true (.fieldAddr 1 (tM 23)),
 gM 25 19 true (.load false 1 false (tM 24)),
 gM 26 19 true (.bin .leq (tM 20) (tM 25)),
 oM 27 (.pick (tM 19) (tM 26) (.const (.bool false)))])
 (.cond (tM 27)
 (.seq (.ops [mM 28 1,
 oM 29 (.call 0 44 [(tM 28)]),
 mM 4 29])
 .ret)
 .skip)))
 (.ops [mM 10 5,
 oM 11 (.bin .add (tM 10) (kM (1))),
 mM 5 11]))))))
 (.seq (.ops [oM 4 (.mv (.const (.bool false)))])
 .ret)))⟩
def dC:bN:=⟨[.tmp 4],
 (.seq (.ops [oM 4 (.mv (.const (.bool false)))])
 (.seq (.seq (.ops [mM 6 0,
 oM 7 (.len 0 (tM 6)),
 mM 8 1,
 oM 9 (.len 0 (tM 8)),
 oM 10 (.bin .neq (tM 7) (tM 9))])
 (.cond (tM 10)
 (.seq (.ops [oM 4 (.mv (.const (.bool false)))])
 .ret)
 .skip))
 (.seq (.seq (.ops [oM 5 (.mv (kM (0)))])
 (.block 0
 (.loop
 (.seq (.seq (.ops [mM 11 5,
 mM 12 0,
 oM 13 (.len 0 (tM 12)),
 oM 14 (.bin .lss (tM 11) (tM 13))])
 (.cond (tM 14)
 .skip
 (.exit 0)))
 (.seq (.block 1
 (.seq (.ops [mM 17 0,
 mM 18 5,
 oM 19 (.indexAddr 2 (tM 17) (tM 18)),
 oM 20 (.load false 2 true (tM 19)),
 mM 21 1,
 mM 22 5,
 oM 23 (.indexAddr 2 (tM 21) (tM 22)),
 oM 24 (.load false 2 true (tM 23)),
 oM 25 (.eqS true 2 (tM 20) (tM 24))])
 (.cond (tM 25)
 (.seq (.ops [oM 4 (.mv (.const (.bool false)))])
 .ret)
 .skip)))
 (.ops [mM 15 5,
 oM 16 (.bin .add (tM 15) (kM (1))),
 mM 5 16]))))))
 (.seq (.ops [oM 4 (.mv (.const (.bool true)))])
 .ret))))⟩
def dU:bN:=⟨[.tmp 4],
 (.seq (.ops [oM 4 (.mv (.const (.rd 0 [] true)))])
 (.seq (.ops [oM 5 (.mv (.const (.rd 0 [] true)))])
 (.seq (.ops [oM 6 (.mv (kM (0)))])
 (.seq (.block 0
 (.loop
 (.seq (.seq (.ops [mM 7 6,
 mM 8 0,
 oM 9 (.len 0 (tM 8)),
 oM 10 (.bin .lss (tM 7) (tM 9)),
 mM 11 10,
 gM 12 11 true (.mv (tM 0)),
 gM 13 11 true (.mv (tM 6)),
 gM 14 11 true (.indexAddr 1 (tM 12) (tM 13)),
 gM 15 11 true (.load false 1 false (tM 14)),
 gM 16 11 true (.mv (tM 1)),
 gM 17 11 true (.bin .lss (tM 15) (tM 16)),
 oM 18 (.pick (tM 11) (tM 17) (.const (.bool false)))])
 (.cond (tM 18)
 .skip
 (.exit 0)))
 (.block 1
 (.seq (.ops [mM 19 5,
 mM 20 0,
 mM 21 6,
 oM 22 (.indexAddr 1 (tM 20) (tM 21)),
 oM 23 (.load false 1 false (tM 22)),
 oM 24 (.lit 1 1 [(.int .i64 0)] [(0,1,(tM 23))]),
 oM 25 (.append 1 (tM 19) (tM 24)),
 mM 5 25])
 (.ops [mM 26 6,
 oM 27 (.bin .add (tM 26) (kM (1))),
 mM 6 27]))))))
 (.seq (.seq (.ops [mM 28 6,
 mM 29 0,
 oM 30 (.len 0 (tM 29)),
 oM 31 (.bin .lss (tM 28) (tM 30)),
 mM 32 31,
 gM 33 32 true (.mv (tM 0)),
 gM 34 32 true (.mv (tM 6)),
 gM 35 32 true (.indexAddr 1 (tM 33) (tM 34)),
 gM 36 32 true (.load false 1 false (tM 35)),
 gM 37 32 true (.mv (tM 1)),
 gM 38 32 true (.bin .eql (tM 36) (tM 37)),
 oM 39 (.pick (tM 32) (tM 38) (.const (.bool false)))])
 (.cond (tM 39)
 (.ops [mM 40 6,
 oM 41 (.bin .add (tM 40) (kM (1))),
 mM 6 41])
 .skip))
 (.seq (.ops [mM 42 5,
 mM 43 1,
 oM 44 (.lit 1 1 [(.int .i64 0)] [(0,1,(tM 43))]),
 oM 45 (.append 1 (tM 42) (tM 44)),
 mM 5 45])
 (.seq (.ops [mM 46 5,
 mM 47 0,
 mM 48 6,
 oM 49 (.slice 1 (tM 47) (some (tM 48)) none none),
 oM 50 (.append 1 (tM 46) (tM 49)),
 mM 5 50])
 (.seq (.ops [mM 51 5,
 mM 4 51])
 .ret))))))))⟩
def dz:bN:=⟨[.tmp 2],
 (.seq (.ops [oM 2 (.mv (.const (.rd 0 [] true)))])
 (.seq (.ops [oM 5 (.call 0 58 [(.const (.rd 0 [] true)),(kM (0))]),
 oM 6 (.call 0 58 [(tM 5),(kM (57344))]),
 mM 3 6])
 (.seq (.seq (.ops [oM 4 (.mv (kM (0)))])
 (.block 0
 (.loop
 (.seq (.seq (.ops [mM 7 4,
 mM 8 0,
 oM 9 (.len 0 (tM 8)),
 oM 10 (.bin .lss (tM 7) (tM 9))])
 (.cond (tM 10)
 .skip
 (.exit 0)))
 (.seq (.block 1
 (.seq (.seq (.ops [mM 13 0,
 mM 14 4,
 oM 15 (.indexAddr 2 (tM 13) (tM 14)),
 oM 16 (.fieldAddr 0 (tM 15)),
 oM 17 (.load false 1 false (tM 16)),
 oM 18 (.call 0 44 [(tM 17)])])
 (.cond (tM 18)
 (.ops [mM 19 3,
 mM 20 0,
 mM 21 4,
 oM 22 (.indexAddr 2 (tM 20) (tM 21)),
 oM 23 (.fieldAddr 0 (tM 22)),
 oM 24 (.load false 1 false (tM 23)),
 oM 25 (.call 0 58 [(tM 19),(tM 24)]),
 mM 3 25])
 .skip))
 (.seq (.ops [mM 26 0,
 mM 27 4,
 oM 28 (.indexAddr 2 (tM 26) (tM 27)),
 oM 29 (.fieldAddr 1 (tM 28)),
 oM 30 (.load false 1 false (tM 29)),
 oM 31 (.bin .lss (tM 30) (kM (1114111))),
 mM 32 31,
 gM 33 32 true (.mv (tM 0)),
 gM 34 32 true (.mv (tM 4)),
 gM 35 32 true (.indexAddr 2 (tM 33) (tM 34)),
 gM 36 32 true (.fieldAddr 1 (tM 35)),
 gM 37 32 true (.load false 1 false (tM 36)),
 gM 38 32 true (.bin .add (tM 37) (kM (1))),
 gM 39 32 true (.call 0 44 [(tM 38)]),
 oM 40 (.pick (tM 32) (tM 39) (.const (.bool false)))])
 (.cond (tM 40)
 (.ops [mM 41 3,
 mM 42 0,
 mM 43 4,
 oM 44 (.indexAddr 2 (tM 42) (tM 43)),
 oM 45 (.fieldAddr 1 (tM 44)),
 oM 46 (.load false 1 false (tM 45)),
 oM 47 (.bin .add (tM 46) (kM (1))),
 oM 48 (.call 0 58 [(tM 41),(tM 47)]),
 mM 3 48])
 .skip))))
 (.ops [mM 11 4,
 oM 12 (.bin .add (tM 11) (kM (1))),
 mM 4 12]))))))
 (.seq (.ops [mM 49 3,
 mM 2 49])
 .ret))))⟩
def dK:bN:=⟨[.tmp 6],
 (.seq (.ops [oM 6 (.mv (.const (.rd 0 [] true)))])
 (.seq (.ops [mM 14 0,
 oM 15 (.call 0 57 [(tM 14)]),
 mM 7 15])
 (.seq (.ops [mM 16 1,
 oM 17 (.call 0 57 [(tM 16)]),
 mM 8 17])
 (.seq (.seq (.ops [oM 9 (.mv (kM (0)))])
 (.block 0
 (.loop
 (.seq (.seq (.ops [mM 18 9,
 mM 19 8,
 oM 20 (.len 0 (tM 19)),
 oM 21 (.bin .lss (tM 18) (tM 20))])
 (.cond (tM 21)
 .skip
 (.exit 0)))
 (.seq (.block 1
 (.ops [mM 24 7,
 mM 25 8,
 mM 26 9,
 oM 27 (.indexAddr 1 (tM 25) (tM 26)),
 oM 28 (.load false 1 false (tM 27)),
 oM 29 (.call 0 58 [(tM 24),(tM 28)]),
 mM 7 29]))
 (.ops [mM 22 9,
 oM 23 (.bin .add (tM 22) (kM (1))),
 mM 9 23]))))))
 (.seq (.ops [oM 10 (.mv (.const (.rd 0 [] true)))])
 (.seq (.seq (.ops [oM 11 (.mv (kM (0)))])
 (.block 2
 (.loop
 (.seq (.seq (.ops [mM 30 11,
 mM 31 7,
 oM 32 (.len 0 (tM 31)),
 oM 33 (.bin .lss (tM 30) (tM 32))])
 (.cond (tM 33)
 .skip
 (.exit 2)))
 (.seq (.block 3
 (.seq (.ops [oM 12 (.mv (kM (1114111)))])
 (.seq (.seq (.ops [mM 36 11,
 oM 37 (.bin .add (tM 36) (kM (1))),
 mM 38 7,
 oM 39 (.len 0 (tM 38)),
 oM 40 (.bin .lss (tM 37) (tM 39))])
 (.cond (tM 40)
 (.ops [mM 41 7,
 mM 42 11,
 oM 43 (.bin .add (tM 42) (kM (1))),
 oM 44 (.indexAddr 1 (tM 41) (tM 43)),
 oM 45 (.load false 1 false (tM 44)),
 oM 46 (.bin .sub (tM 45) (kM (1))),
 mM 12 46])
 .skip))
 (.seq (.seq (.ops [mM 47 7,
 mM 48 11,
 oM 49 (.indexAddr 1 (tM 47) (tM 48)),
 oM 50 (.load false 1 false (tM 49)),
 oM 51 (.bin .lss (tM 50) (kM (55296)))])
 (.cond (tM 51)
 (.ops [mM 52 12,
 oM 53 (.mn [(tM 52),(kM (55295))]),
 mM 12 53])
 .skip))
 (.seq (.ops [oM 13 (.mv (kM (0)))])
 (.seq (.seq (.ops [mM 54 0,
 mM 55 7,
 mM 56 11,
 oM 57 (.indexAddr 1 (tM 55) (tM 56)),
 oM 58 (.load false 1 false (tM 57)),
 oM 59 (.call 0 31 [(tM 54),(tM 58)])])
 (.cond (tM 59)
 (.ops [mM 60 13,
 oM 61 (.bin .add (tM 60) (kM (1))),
 mM 13 61])
 .skip))
 (.seq (.seq (.ops [mM 62 1,
 mM 63 7,
 mM 64 11,
 oM 65 (.indexAddr 1 (tM 63) (tM 64)),
 oM 66 (.load false 1 false (tM 65)),
 oM 67 (.call 0 31 [(tM 62),(tM 66)])])
 (.cond (tM 67)
 (.ops [mM 68 13,
 oM 69 (.bin .add (tM 68) (kM (2))),
 mM 13 69])
 .skip))
 (.seq (.seq (.ops [mM 70 2,
 oM 71 (.bin .rem (tM 70) (kM (2))),
 mM 72 2,
 oM 73 (.bin .quo (tM 72) (kM (2))),
 oM 74 (.bin .rem (tM 73) (kM (2))),
 mM 75 2,
 oM 76 (.bin .quo (tM 75) (kM (4))),
 oM 77 (.bin .rem (tM 76) (kM (2))),
 mM 78 2,
 oM 79 (.bin .quo (tM 78) (kM (8))),
 oM 80 (.bin .rem (tM 79) (kM (2))),
 oM 81 (.lit 1 4 [(.int .i64 0),(.int .i64 0),(.int .i64 0),(.int .i64 0)] [(0,1,(tM 71)),(1,1,(tM 74)),(2,1,(tM 77)),(3,1,(tM 80))]),
 mM 82 13,
 oM 83 (.indexAddr 1 (tM 81) (tM 82)),
 oM 84 (.load false 1 false (tM 83)),
 oM 85 (.bin .eql (tM 84) (kM (0)))])
 (.cond (tM 85)
 (.exit 3)
 .skip))
 (.seq (.ops [mM 86 10,
 oM 87 (.len 0 (tM 86)),
 oM 88 (.bin .gtr (tM 87) (kM (0))),
 mM 89 88,
 gM 90 89 true (.mv (tM 10)),
 gM 91 89 true (.mv (tM 10)),
 gM 92 89 true (.len 0 (tM 91)),
 gM 93 89 true (.bin .sub (tM 92) (kM (1))),
 gM 94 89 true (.indexAddr 2 (tM 90) (tM 93)),
 gM 95 89 true (.fieldAddr 1 (tM 94)),
 gM 96 89 true (.load false 1 false (tM 95)),
 gM 97 89 true (.mv (tM 7)),
 gM 98 89 true (.mv (tM 11)),
 gM 99 89 true (.indexAddr 1 (tM 97) (tM 98)),
 gM 100 89 true (.load false 1 false (tM 99)),
 gM 101 89 true (.bin .sub (tM 100) (kM (1))),
 gM 102 89 true (.bin .eql (tM 96) (tM 101)),
 oM 103 (.pick (tM 89) (tM 102) (.const (.bool false)))])
 (.cond (tM 103)
 (.ops [mM 104 10,
 mM 105 10,
 oM 106 (.len 0 (tM 105)),
 oM 107 (.bin .sub (tM 106) (kM (1))),
 mM 108 12,
 oM 109 (.indexAddr 2 (tM 104) (tM 107)),
 oM 110 (.fieldAddr 1 (tM 109)),
 nM (.store 1 (tM 110) (tM 108))])
 (.ops [mM 111 10,
 mM 112 7,
 mM 113 11,
 oM 114 (.indexAddr 1 (tM 112) (tM 113)),
 oM 115 (.load false 1 false (tM 114)),
 mM 116 12,
 oM 117 (.build [(.int .i64 0),(.int .i64 0)] [(0,1,(tM 115)),(1,1,(tM 116))]),
 oM 118 (.lit 2 1 [(.int .i64 0),(.int .i64 0)] [(0,2,(tM 117))]),
 oM 119 (.append 2 (tM 111) (tM 118)),
 mM 10 119])))))))))))
 (.ops [mM 34 11,
 oM 35 (.bin .add (tM 34) (kM (1))),
 mM 11 35]))))))
 (.seq (.ops [mM 120 10,
 mM 6 120])
 .ret)))))))⟩
def dJ:bN:=⟨[.tmp 2],
 (.seq (.ops [oM 2 (.mv (.const (.rd 0 [] true)))])
 (.seq (.ops [mM 3 0,
 oM 4 (.call 0 45 [(tM 3),(.const (.rd 0 [] true)),(kM (2))]),
 mM 2 4])
 .ret))⟩
def dE:bN:=⟨[.tmp 2],
 (.seq (.ops [oM 2 (.mv (kM (0)))])
 (.seq (.ops [mM 4 0,
 oM 5 (.bin .quo (tM 4) (.const (.int .u16 8))),
 oM 6 (.conv .i64 (tM 5)),
 mM 3 6])
 (.seq (.seq (.ops [mM 7 0,
 oM 8 (.bin .rem (tM 7) (.const (.int .u16 8)))])
 (.block 0
 (.seq (.ops [oM 10 (.bin .eql (tM 8) (.const (.int .u16 0))),
 mM 9 10])
 (.cond (tM 9)
 (.seq (.ops [mM 11 3,
 oM 12 (.bin .rem (tM 11) (kM (2080))),
 oM 13 (.bin .add (kM (55280)) (tM 12)),
 mM 2 13])
 .ret)
 (.seq (.ops [oM 15 (.bin .eql (tM 8) (.const (.int .u16 1))),
 mM 14 15])
 (.cond (tM 14)
 (.seq (.ops [mM 16 3,
 oM 17 (.bin .rem (tM 16) (kM (32))),
 oM 18 (.bin .add (kM (1114080)) (tM 17)),
 mM 2 18])
 .ret)
 (.seq (.ops [oM 20 (.bin .eql (tM 8) (.const (.int .u16 2))),
 mM 19 20])
 (.cond (tM 19)
 (.seq (.ops [mM 21 3,
 oM 22 (.bin .rem (tM 21) (kM (48))),
 oM 23 (.bin .add (kM (2032)) (tM 22)),
 mM 2 23])
 .ret)
 (.seq (.ops [oM 25 (.bin .eql (tM 8) (.const (.int .u16 3))),
 mM 24 25])
 (.cond (tM 24)
 (.seq (.ops [mM 26 3,
 oM 27 (.bin .rem (tM 26) (kM (48))),
 oM 28 (.bin .add (kM (65520)) (tM 27)),
 mM 2 28])
 .ret)
 .skip))))))))))
 (.seq (.ops [mM 29 3,
 oM 30 (.bin .rem (tM 29) (kM (200))),
 mM 2 30])
 .ret))))⟩
def dM:bN:=⟨[.tmp 2],
 (.seq (.ops [oM 2 (.mv (.const (.rd 0 [] true)))])
 (.seq (.ops [oM 3 (.mv (.const (.rd 0 [] true)))])
 (.seq (.seq (.ops [oM 4 (.mv (kM (0)))])
 (.block 0
 (.loop
 (.seq (.seq (.ops [mM 6 4,
 oM 7 (.bin .add (tM 6) (kM (1))),
 mM 8 0,
 oM 9 (.len 0 (tM 8)),
 oM 10 (.bin .lss (tM 7) (tM 9)),
 mM 11 10,
 gM 12 11 true (.mv (tM 4)),
 gM 13 11 true (.bin .lss (tM 12) (kM (60))),
 oM 14 (.pick (tM 11) (tM 13) (.const (.bool false)))])
 (.cond (tM 14)
 .skip
 (.exit 0)))
 (.seq (.block 1
 (.seq (.ops [mM 17 0,
 mM 18 4,
 oM 19 (.indexAddr 1 (tM 17) (tM 18)),
 oM 20 (.load false 1 false (tM 19)),
 oM 21 (.call 0 34 [(tM 20)]),
 mM 5 21])
 (.ops [mM 22 3,
 mM 23 5,
 mM 24 5,
 mM 25 0,
 mM 26 4,
 oM 27 (.bin .add (tM 26) (kM (1))),
 oM 28 (.indexAddr 1 (tM 25) (tM 27)),
 oM 29 (.load false 1 false (tM 28)),
 oM 30 (.bin .rem (tM 29) (.const (.int .u16 40))),
 oM 31 (.conv .i64 (tM 30)),
 oM 32 (.bin .add (tM 24) (tM 31)),
 oM 33 (.build [(.int .i64 0),(.int .i64 0)] [(0,1,(tM 23)),(1,1,(tM 32))]),
 oM 34 (.lit 2 1 [(.int .i64 0),(.int .i64 0)] [(0,2,(tM 33))]),
 oM 35 (.append 2 (tM 22) (tM 34)),
 mM 3 35])))
 (.ops [mM 15 4,
 oM 16 (.bin .add (tM 15) (kM (2))),
 mM 4 16]))))))
 (.seq (.ops [mM 36 3,
 mM 2 36])
 .ret))))⟩
structure jM (Φ:Lib):Prop where
 f44:Φ 44=some (.code dw)
 f31:Φ 31=some (.code dV)
 f32:Φ 32=some (.code dC)
 f58:Φ 58=some (.code dU)
 f57:Φ 57=some (.code dz)
 f45:Φ 45=some (.code dK)
 f33:Φ 33=some (.code dJ)
 f34:Φ 34=some (.code dE)
 f22:Φ 22=some (.code dM)
end
end Go.Proofs.YtlnobeojgifojaaGreatDoor
