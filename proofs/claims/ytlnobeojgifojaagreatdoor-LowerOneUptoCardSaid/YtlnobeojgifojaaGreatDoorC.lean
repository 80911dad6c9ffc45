/- The abstract machine's code of some functions. Written by program. The abstract machine's code of some functions. Written by program. -/
import Derived.Test.YtlnobeojgifojaaGreatDoorB2
namespace Go.Proofs.YtlnobeojgifojaaGreatDoor
section
open Go
def dJ:cj:=⟨[.tmp 4],
 (.seq (.ops [oM 4 (.mv (.const (.bool false)))])
 (.seq (.ops [mM 5 0,
 mM 6 1,
 oM 7 (.call 0 52 [(tM 5),(tM 6)]),
 oM 8 (.bin .geq (tM 7) (kM (0))),
 mM 4 8])
 .ret))⟩
def cU:cj:=⟨[.tmp 4],
 (.seq (.ops [oM 4 (.mv (kM (0)))])
 (.seq (.seq (.ops [mM 6 0,
 oM 7 (.len 0 (tM 6)),
 oM 8 (.mv (kM (0)))])
 (.block 0
 (.loop
 (.seq (.ops [oM 9 (.bin .lss (tM 8) (tM 7))])
 (.seq (.cond (tM 9)
 .skip
 (.exit 0))
 (.seq (.block 1
 (.seq (.ops [mM 10 8,
 mM 5 10])
 (.seq (.ops [mM 11 1,
 mM 12 0,
 mM 13 5,
 oM 14 (.indexAddr 1 (tM 12) (tM 13)),
 oM 15 (.load false 1 false (tM 14)),
 oM 16 (.callv 0 (tM 11) [(tM 15)])])
 (.cond (tM 16)
 (.seq (.ops [mM 17 5,
 mM 4 17])
 .ret)
 .skip))))
 (.ops [oM 18 (.bin .add (tM 8) (kM (1))),
 mM 8 18])))))))
 (.seq (.ops [oM 4 (.mv (kM ((-1))))])
 .ret)))⟩
def gh:cj:=⟨[.tmp 2],
 (.seq (.ops [oM 2 (.mv (.const (.rd 0 [] true)))])
 (.seq (.ops [oM 3 (.mv (.const (.rd 0 [] true))),
 oM 4 (.mv (.const (.rd 0 [] true)))])
 (.seq (.seq (.ops [mM 10 0,
 oM 11 (.len 0 (tM 10)),
 oM 12 (.mv (kM (0)))])
 (.block 0
 (.loop
 (.seq (.ops [oM 13 (.bin .lss (tM 12) (tM 11))])
 (.seq (.cond (tM 13)
 .skip
 (.exit 0))
 (.seq (.block 1
 (.seq (.ops [oM 14 (.indexAddr 2 (tM 10) (tM 12)),
 oM 15 (.load false 2 true (tM 14)),
 oM 6 (.alloc [(.int .i64 0),(.int .i64 0)]),
 nM (.store 2 (tM 6) (tM 15))])
 (.ops [mM 16 3,
 oM 17 (.load false 2 true (tM 6)),
 oM 18 (.call 0 47 [(tM 17)]),
 oM 19 (.call 0 46 [(tM 16),(tM 18)]),
 mM 3 19])))
 (.ops [oM 20 (.bin .add (tM 12) (kM (1))),
 mM 12 20])))))))
 (.seq (.ops [mM 21 3,
 oM 22 (.call 0 48 [(tM 21),(.const (.fn 49 []))])])
 (.seq .skip
 (.seq (.seq (.ops [mM 23 3,
 oM 24 (.len 0 (tM 23)),
 oM 25 (.mv (kM (0)))])
 (.block 2
 (.loop
 (.seq (.ops [oM 26 (.bin .lss (tM 25) (tM 24))])
 (.seq (.cond (tM 26)
 .skip
 (.exit 2))
 (.seq (.block 3
 (.seq (.ops [oM 27 (.indexAddr 2 (tM 23) (tM 25)),
 oM 28 (.load false 2 true (tM 27)),
 oM 8 (.alloc [(.int .i64 0),(.int .i64 0)]),
 nM (.store 2 (tM 8) (tM 28))])
 (.seq (.seq (.ops [mM 29 4,
 oM 30 (.len 0 (tM 29)),
 mM 9 30])
 (.seq (.ops [mM 31 9,
 oM 32 (.bin .gtr (tM 31) (kM (0))),
 mM 33 32,
 gM 34 33 true (.fieldAddr 0 (tM 8)),
 gM 35 33 true (.load false 1 false (tM 34)),
 gM 36 33 true (.mv (tM 4)),
 gM 37 33 true (.mv (tM 9)),
 gM 38 33 true (.bin .sub (tM 37) (kM (1))),
 gM 39 33 true (.indexAddr 2 (tM 36) (tM 38)),
 gM 40 33 true (.fieldAddr 1 (tM 39)),
 gM 41 33 true (.load false 1 false (tM 40)),
 gM 42 33 true (.bin .add (tM 41) (kM (1))),
 gM 43 33 true (.bin .leq (tM 35) (tM 42)),
 oM 44 (.pick (tM 33) (tM 43) (.const (.bool false)))])
 (.cond (tM 44)
 (.seq (.ops [mM 45 4,
 mM 46 9,
 oM 47 (.bin .sub (tM 46) (kM (1))),
 mM 48 4,
 mM 49 9,
 oM 50 (.bin .sub (tM 49) (kM (1))),
 oM 51 (.indexAddr 2 (tM 48) (tM 50)),
 oM 52 (.fieldAddr 1 (tM 51)),
 oM 53 (.load false 1 false (tM 52)),
 oM 54 (.fieldAddr 1 (tM 8)),
 oM 55 (.load false 1 false (tM 54)),
 oM 56 (.mx [(tM 53),(tM 55)]),
 oM 57 (.indexAddr 2 (tM 45) (tM 47)),
 oM 58 (.fieldAddr 1 (tM 57)),
 nM (.store 1 (tM 58) (tM 56))])
 (.exit 3))
 .skip)))
 (.ops [mM 59 4,
 oM 60 (.load false 2 true (tM 8)),
 oM 61 (.lit 2 1 [(.int .i64 0),(.int .i64 0)] [(0,2,(tM 60))]),
 oM 62 (.append 2 (tM 59) (tM 61)),
 mM 4 62]))))
 (.ops [oM 63 (.bin .add (tM 25) (kM (1))),
 mM 25 63])))))))
 (.seq (.ops [mM 64 4,
 mM 2 64])
 .ret)))))))⟩
def fD:cj:=⟨[.tmp 2],
 (.seq (.ops [oM 1 (.box (tM 0)),
 oM 2 (.mv (.const .nilf))])
 (.seq (.ops [oM 3 (.mkfn 59 [(tM 1)]),
 mM 2 3])
 .ret))⟩
def eT:cj:=⟨[],
 (.seq (.ops [oM 7 (.fieldAddr 0 (tM 1)),
 oM 8 (.load false 1 false (tM 7)),
 oM 9 (.mx [(tM 8),(kM (0))]),
 oM 10 (.fieldAddr 1 (tM 1)),
 oM 11 (.load false 1 false (tM 10)),
 oM 12 (.mn [(tM 11),(kM (55295))]),
 oM 13 (.build [(.int .i64 0),(.int .i64 0)] [(0,1,(tM 9)),(1,1,(tM 12))]),
 oM 3 (.alloc [(.int .i64 0),(.int .i64 0)]),
 nM (.store 2 (tM 3) (tM 13))])
 (.seq (.ops [oM 14 (.fieldAddr 0 (tM 1)),
 oM 15 (.load false 1 false (tM 14)),
 oM 16 (.mx [(tM 15),(kM (57344))]),
 oM 17 (.fieldAddr 1 (tM 1)),
 oM 18 (.load false 1 false (tM 17)),
 oM 19 (.mn [(tM 18),(kM (1114111))]),
 oM 20 (.build [(.int .i64 0),(.int .i64 0)] [(0,1,(tM 16)),(1,1,(tM 19))]),
 oM 4 (.alloc [(.int .i64 0),(.int .i64 0)]),
 nM (.store 2 (tM 4) (tM 20))])
 (.seq (.ops [oM 21 (.load false 2 true (tM 3)),
 oM 22 (.load false 2 true (tM 4)),
 oM 23 (.build [(.int .i64 0),(.int .i64 0),(.int .i64 0),(.int .i64 0)] [(0,2,(tM 21)),(2,2,(tM 22))]),
 oM 24 (.mv (kM (0)))])
 (.block 0
 (.loop
 (.seq (.ops [oM 25 (.bin .lss (tM 24) (kM (2)))])
 (.seq (.cond (tM 25)
 .skip
 (.exit 0))
 (.seq (.block 1
 (.seq (.ops [oM 26 (.indexA 2 2 true (tM 23) (tM 24)),
 oM 6 (.alloc [(.int .i64 0),(.int .i64 0)]),
 nM (.store 2 (tM 6) (tM 26))])
 (.seq (.ops [oM 27 (.fieldAddr 0 (tM 6)),
 oM 28 (.load false 1 false (tM 27)),
 oM 29 (.fieldAddr 1 (tM 6)),
 oM 30 (.load false 1 false (tM 29)),
 oM 31 (.bin .leq (tM 28) (tM 30)),
 mM 32 31,
 gM 33 32 true (.mv (tM 0)),
 gM 34 32 true (.load false 2 true (tM 6)),
 gM 35 32 true (.callv 0 (tM 33) [(tM 34)]),
 gM 36 32 true (.un .not (tM 35)),
 oM 37 (.pick (tM 32) (tM 36) (.const (.bool false)))])
 (.cond (tM 37)
 .ret
 .skip))))
 (.ops [oM 38 (.bin .add (tM 24) (kM (1))),
 mM 24 38])))))))))⟩
def bD:cj:=⟨[.tmp 4],
 (.seq (.ops [oM 2 (.box (tM 0)),
 oM 4 (.mv (.const (.rd 0 [] true)))])
 (.seq (.seq (.ops [mM 6 1])
 (.block 0
 (.rangef (tM 6) [7]
 (.ops [oM 5 (.alloc [(.int .i64 0),(.int .i64 0)]),
 nM (.store 2 (tM 5) (tM 7))])
 (.block 1
 (.ops [oM 8 (.load false 1 false (tM 2)),
 oM 9 (.load false 2 true (tM 5)),
 oM 10 (.lit 2 1 [(.int .i64 0),(.int .i64 0)] [(0,2,(tM 9))]),
 oM 11 (.append 2 (tM 8) (tM 10)),
 nM (.store 1 (tM 2) (tM 11))])))))
 (.seq (.ops [oM 12 (.load false 1 false (tM 2)),
 mM 4 12])
 .ret)))⟩
def bO:cj:=⟨[.tmp 4],
 (.seq (.ops [oM 4 (.mv (.const (.bool false)))])
 (.seq (.seq (.ops [mM 6 0,
 oM 7 (.len 0 (tM 6)),
 mM 8 1,
 oM 9 (.len 0 (tM 8)),
 oM 10 (.bin .neq (tM 7) (tM 9))])
 (.cond (tM 10)
 (.seq (.ops [oM 4 (.mv (.const (.bool false)))])
 .ret)
 .skip))
 (.seq (.seq (.ops [mM 11 0,
 oM 12 (.len 0 (tM 11)),
 oM 13 (.mv (kM (0)))])
 (.block 0
 (.loop
 (.seq (.ops [oM 14 (.bin .lss (tM 13) (tM 12))])
 (.seq (.cond (tM 14)
 .skip
 (.exit 0))
 (.seq (.block 1
 (.seq (.ops [mM 15 13,
 mM 5 15])
 (.seq (.ops [mM 16 0,
 mM 17 5,
 oM 18 (.indexAddr 2 (tM 16) (tM 17)),
 oM 19 (.load false 2 true (tM 18)),
 mM 20 1,
 mM 21 5,
 oM 22 (.indexAddr 2 (tM 20) (tM 21)),
 oM 23 (.load false 2 true (tM 22)),
 oM 24 (.eqS true 2 (tM 19) (tM 23))])
 (.cond (tM 24)
 (.seq (.ops [oM 4 (.mv (.const (.bool false)))])
 .ret)
 .skip))))
 (.ops [oM 25 (.bin .add (tM 13) (kM (1))),
 mM 13 25])))))))
 (.seq (.ops [oM 4 (.mv (.const (.bool true)))])
 .ret))))⟩
structure gC (Φ:Lib):Prop where
 f40:Φ 40=some (.code dJ)
 f52:Φ 52=some (.code cU)
 f38:Φ 38=some (.code gh)
 f47:Φ 47=some (.code fD)
 f59:Φ 59=some (.code eT)
 f46:Φ 46=some (.code bD)
 f37:Φ 37=some (.code bO)
end
section
open Go
structure F6 (Φ:Lib):Prop where
end
end Go.Proofs.YtlnobeojgifojaaGreatDoor
