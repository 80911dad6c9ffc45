/- slices.Sort at numbers, by the kit's contract. -/
import Derived.Test.YtlnobeojgifojaaGreatDoorA6
import Derived.Test.YtlnobeojgifojaaGreatDoorA7
import Derived.Shelf.Sort.Plain
import Derived.Shelf.SlSortCmp.WholeK
import Derived.Shelf.Slices.In.SortNone
import Derived.Shelf.SlSortCmp.NoneTotal
import Derived.Shelf.Spec.SlicesGrow
import Derived.Shelf.SlSortCmp.Whole1
set_option linter.unusedVariables false
set_option linter.unusedSimpArgs false
namespace Go.Proofs.YtlnobeojgifojaaGreatDoor
section
open Go
section
variable {φ:Phi} {P:Program} {X:Ctx}
theorem AX {C:Array Value}{base off:Nat}{vs ws:List Value}(h:∀ (j:Nat) (v:Value),vs[j]?=some v→C[base+j]?=some v)(hb:base+vs.length≤C.size)(hl:off+ws.length≤vs.length) :
  ∀ (j:Nat) (v:Value),(cF vs off ws)[j]?=some v→(cF C.toList (base+off) ws).toArray[base+j]?=some v:=by
 intro j v hj
 have hjl:=(List.getElem?_eq_some_iff.1 hj).1
 rw[ep hl]at hjl
 have e1:(C.toList.take (base+off)).length=base+off:=by simp;omega
 have e2:(vs.take off).length=off:=by simp;omega
 unfold cF at hj ⊢
 simp only[List.getElem?_toArray]
 by_cases h1:j<off
 ·rw[List.append_assoc,List.getElem?_append_left Ll,List.getElem?_take_of_lt h1]at hj
  rw[List.append_assoc,List.getElem?_append_left Ll,List.getElem?_take_of_lt Ll]
  simpa using h j v hj
 ·by_cases h2:j<off+ws.length
  ·rw[List.append_assoc,List.getElem?_append_right Ll,e2,List.getElem?_append_left Ll]at hj
   rw[List.append_assoc,List.getElem?_append_right Ll,e1,List.getElem?_append_left Ll]
   rw[show base+j-(base+off)=j-off by omega]
   exact hj
  ·rw[List.append_assoc,List.getElem?_append_right Ll,e2,List.getElem?_append_right Ll,List.getElem?_drop]at hj
   rw[List.append_assoc,List.getElem?_append_right Ll,e1,List.getElem?_append_right Ll,List.getElem?_drop]
   rw[show off+ws.length+(j-off-ws.length)=j by omega]at hj
   rw[show base+off+ws.length+(base+j-(base+off)-ws.length)=base+j by omega]
   simpa using h j v hj
theorem qP (hX:bE φ X){id g e off len:Nat}{lim:Option Nat}{a:Option Addr}{cap:Nat}{cs as':List AV}{vs':List Value}(hid:X.h.get id=some (.cells g cs))(hv:VC φ X (.own id g e off len lim) (.slice a len cap))(hl:(off+len)*e≤cs.length)
  (ha:VCs φ X as' vs') (hlen:as'.length=len*e) :
  ∃ B base C T vs,(0<cap→a=some ⟨B,base+off*e,none⟩)∧len≤cap∧X.w.heap[B]?=some (.cells C T (0,0))∧VCs φ X ((cs.drop (off*e)).take (len*e)) vs∧vs.length=len*e∧(∀ j v,vs[j]?=some v→C[base+off*e+j]?=some v) ∧
   base+off*e+len*e≤C.size ∧
   ∀ w':World,X.w.heap.size≤w'.heap.size→w'.os=X.w.os→w'.output=X.w.output→(∀ i,i<X.w.heap.size→i≠B→w'.heap[i]?=X.w.heap[i]?)→w'.heap[B]?=some (.cells (cF C.toList (base+off*e) vs').toArray T (0,0)) →
    ∃ X',X'.w=w'∧X'.h=X.h.set id (.cells g (cs.take (off*e)++as'++cs.drop ((off+len)*e)))∧Le X X'∧bE φ X':=by
 obtain⟨a',cap',B,base,C,T,vs,hx,hlc,haa,hC,hlim,k1,k2,k3,k4,k5⟩:=VC.of_own hX hv hid
 injection hx with hx1 _ hx2
 subst hx1 hx2
 obtain⟨q1,q2,q3⟩:=lO k4 k5 hl
 have hl2:=ha.length
 have hl4:=k4.length
 have hke:(off+len)*e=off*e+len*e:=Nat.add_mul ..
 refine⟨B,base,C,T,_,haa,hlc,k2,q1,q2,q3,by omega,fun w' hs hos hout hkept hB=>?_⟩
 have hup:=hX.update (id:=id) (g':=g) (cs':=cs.take (off*e)++as'++cs.drop ((off+len)*e)) (B:=B) (base:=base) (w':=w')
  (C':=(cF C.toList (base+off*e) vs').toArray) (T:=T) (vs:=cF vs (off*e) vs')
  hs hos hout hkept hB (Nat.lt_of_lt_of_le (hX.ids _ _ hid) hs)
  (.inl ⟨g,cs,base,C,hid,k1,k2,by simp[ep (show base+off*e+vs'.length≤C.toList.length by simp;omega)],Nat.le_refl _,fun _=>rfl⟩)
  (by
   simp[ep (show base+off*e+vs'.length≤C.toList.length by simp;omega)]
   omega)
  (by
   unfold cF
   rw[hke,← hlen,← ha.length]
   exact((k4.take _).append ha).append (k4.drop _))
  (by
   intro j v hj
   exact AX k5 Ll Ll j v hj)
 exact⟨_,rfl,rfl,hup.1,hup.2⟩
open Go.Sort in
theorem oj {α:Type}[Inhabited α](enc:α→Value){w:World}{B n off:Nat}{d:Array α}{os:Array Obj}{C:Array Value}{T:TypeId}(h:w.heap[B]?=some (.cells C T (0,0)))(hs:off+d.size≤C.size) :
  (grow (putRow enc (Sort.ahead w n) B off d) os).heap[B]?=some (.cells (cF C.toList off (d.toList.map enc)).toArray T (0,0)) ∧
  (∀ i,i<w.heap.size→i≠B→(grow (putRow enc (Sort.ahead w n) B off d) os).heap[i]?=w.heap[i]?) ∧
  w.heap.size≤(grow (putRow enc (Sort.ahead w n) B off d) os).heap.size:=by
 have hlt:=(Array.getElem?_eq_some_iff.1 h).1
 have hsz:(putRow enc (Sort.ahead w n) B off d).heap.size=w.heap.size:=by
  simp[putRow,mapBlock,Sort.ahead]
 have hat:∀ i,i<w.heap.size→(grow (putRow enc (Sort.ahead w n) B off d) os).heap[i]?=(putRow enc (Sort.ahead w n) B off d).heap[i]?:=fun i hi=>by
  simp only[grow]
  rw[Array.getElem?_append_left Ll]
 refine⟨?_,fun i hi hne=>?_,by simp[hsz]⟩
 ·rw[hat _ hlt]
  have:(putRow enc (Sort.ahead w n) B off d).heap[B]?=some (.cells (Sort.putCells enc off d C) T (0,0)):=by
   simp only[putRow,mapBlock,Sort.ahead,Array.getElem?_modify,h]
   simp[onCells]
  rw[this]
  congr 2
  apply Array.ext_getElem?
  intro k
  simp only[Sort.putCells,Array.getElem?_mapIdx]
  have e1:(C.toList.take off).length=off:=by simp;omega
  simp only[List.getElem?_toArray]
  unfold cF
  by_cases h1:k<off
  ·rw[List.append_assoc,List.getElem?_append_left Ll,List.getElem?_take_of_lt h1]
   cases hk:C[k]? with
   | none=>simp[hk]
   | some x=>simp[hk,show ¬ off≤k by omega]
  ·by_cases h2:k<off+d.size
   ·rw[List.append_assoc,List.getElem?_append_right Ll,e1,List.getElem?_append_left (by simp;omega)]
    have hk:k<C.size:=by omega
    rw[Array.getElem?_eq_getElem hk]
    simp only[Option.map_some,show off≤k∧k<off+d.size from⟨by omega,h2⟩,and_self,if_true,List.getElem?_map]
    have hj:k-off<d.size:=by omega
    simp[hj]
   ·rw[List.append_assoc,List.getElem?_append_right Ll,e1,List.getElem?_append_right (by simp;omega),List.getElem?_drop]
    rw[show off+(d.toList.map enc).length+(k-off-(d.toList.map enc).length)=k by simp;omega]
    cases hk:C[k]? with
    | none=>simp[hk]
    | some x=>simp[hk,show ¬ (off≤k∧k<off+d.size) by omega]
 ·rw[hat _ hi]
  simp only[putRow,mapBlock,Sort.ahead,Array.getElem?_modify]
  rw[if_neg (Ne.symm hne)]
theorem VCs.ints:∀ {zs:List Int} {vs:List Value},VCs φ X (fC zs) vs→vs=zs.map (.int .i64)
 | [],_,.nil=>rfl
 | z::zs,_,.cons (.int _ _) b=>by rw[VCs.ints b];rfl
theorem VCs.of_ints:∀ (zs:List Int),VCs φ X (fC zs) (zs.map (.int .i64))
 | [] => .nil
 | z::zs => .cons (.int _ _) (VCs.of_ints zs)
def gO (x:Int×Int):List Value:=[.int .i64 x.1,.int .i64 x.2]
def kX (l:List (Int×Int)):List Value:=l.flatMap gO
theorem VCs.pairs:∀ {l:List (Int×Int)} {vs:List Value},VCs φ X (gb l) vs→vs=kX l
 | [],_,h=>by cases h;rfl
 | x::l,vs,h=>by
  simp only[gb,List.flatMap_cons,List.cons_append,List.nil_append]at h
  cases h with
  | cons h1 h2=>cases h2 with
   | cons h2 h3 =>
    cases h1;cases h2
    have:=VCs.pairs (l:=l) h3
    subst this
    rfl
theorem VCs.of_pairs:∀ (l:List (Int×Int)),VCs φ X (gb l) (kX l)
 | [] => .nil
 | x::l => .cons (.int _ _) (.cons (.int _ _) (VCs.of_pairs l))
open Go.Sort in
theorem sx (l:List (Int×Int)):(flatK gO 2 l.toArray).toList=kX l:=by
 have hlen:∀ l:List (Int×Int),(kX l).length=l.length*2:=by
  intro l
  induction l with
  | nil=>rfl
  | cons a l ih=>simp only[kX,List.flatMap_cons,gO,List.length_append,List.length_cons,List.length_nil]at ih ⊢;omega
 have key:∀ (l:List (Int×Int)) (t:Nat),t<l.length*2→(kX l)[t]?=some ((gO l.toArray[t / 2]!)[t%2]!):=by
  intro l
  induction l with
  | nil=>intro t h;simp at h
  | cons x l ih =>
   intro t h
   match t with
   | 0=>rfl
   | 1=>rfl
   | t+2 =>
    have:=ih t (by simp at h;omega)
    show(kX l)[t]?=_
    rw[this]
    have e1:(t+2) / 2=t / 2+1:=by omega
    have e2:(t+2)%2=t%2:=by omega
    rw[e1,e2]
    simp
 apply List.ext_getElem?
 intro t
 by_cases ht:t<l.length*2
 ·rw[key l t ht]
  simp only[flatK,Array.toList_map,Array.toList_range,List.getElem?_map]
  rw[List.getElem?_range (by simpa using ht)]
  rfl
 ·rw[List.getElem?_eq_none (by simp[flatK];omega),List.getElem?_eq_none (by rw[hlen];omega)]
open Go.Sort Go.Shelf in
theorem sT {ρ:Ren}(L:SlLaysF0.n6 P ρ)(aE:∀ w,(isAgg (ρ.t 24)).run P w = .ok true w)(zE:∀ w,(Go.sizeOf (ρ.t 24)).run P w = .ok 2 w){c:Nat}{gf:FuncId}(hc:φ c=some gf)(eg:∀ args w,(callFunc gf args).run P w = .ok (.enter gf args) w)
  (hcmp:∀ (x y:Int×Int) (W:World),Calls P gf #[.agg #[.int .i64 x.1,.int .i64 x.2],.agg #[.int .i64 y.1,.int .i64 y.2]] W fun e w'=>e = .returned (.int .i64 (Lib.compareInt x.1 y.1))∧∃ q os',w'=grow (W.drewN q) os')
  {args:List AV} {vals:List Value} {Q:AV→ad→Prop} (hp:(ki c).pt args X.h Q) (hX:bE φ X) (hv:VRs φ X args vals):Calls P (ρ.f 6) vals.toArray X.w (fi φ P X Q):=by
 have hlt:∀ x y:Int×Int,ltOf (fun x y:Int×Int=>Lib.compareInt x.1 y.1) x y=decide (x.1<y.1):=fun x y=>by
  unfold ltOf Lib.compareInt
  by_cases h1:x.1<y.1
  ·simp[h1]
  ·by_cases h2:y.1<x.1<;>simp[h1,h2]
 have hswo:SWO (ltOf fun x y:Int×Int=>Lib.compareInt x.1 y.1):={
  irrefl:=fun x=>by rw[hlt];simp
  trans:=fun x y z h1 h2=>by rw[hlt]at *;simp at *;omega
  ntrans:=fun x y z h1 h2=>by rw[hlt]at *;simp at *;omega }
 simp only[ki]at hp
 split at hp
 ·rename_i id g e off n lim c' cap'
  obtain⟨rfl,rfl,cs,l,hid,rfl,hl,hn,hz,hq⟩:=hp
  cases hv with
  | cons h1 h2 =>
   cases h2 with
   | cons h2 h3 =>
    cases h3
    cases h1 with
    | one h1 =>
     cases h2 with
     | one h2 =>
      cases h2 with
      | fn hf hcap =>
       rename_i fid vcap
       rw[hc]at hf
       injection hf with hf
       subst hf
       cases hcap
       have h1':=h1
       cases h1 with
       | own hlt' hlc ha hg =>
        rename_i a cap
        have hzl:l.length=n:=by
         have:=congrArg List.length hz
         rw[kG]at this
         simp at this
         omega
        by_cases hn0:n=0
        ·subst hn0
         refine(AnyF.slices_SortFunc_none L a cap _ X.w).mono ?_
         rintro e w' ⟨rfl,rfl⟩
         have hz0:l=[]:=List.eq_nil_of_length_eq_zero hzl
         subst hz0
         have hq:=hq [] (.refl _) .nil
         refine⟨.tup [],_,X,rfl,rfl,.refl X,hX,.tup .nil,?_⟩
         have:X.h.set id (.cells g (cs.take (off*2)++gb []++cs.drop ((off+0)*2)))=X.h:=by
          apply ad.ext'
          funext i
          simp only[ad.set]
          split
          ·rename_i hi;rw[hi,hid];simp[gb]
          ·rfl
         rw[this]at hq
         exact hq
        ·obtain⟨B,base,C,T,vs,k1,k2,k3,k4,k5,k6,k7,_⟩:=qP hX hid h1' hl (VCs.of_pairs l) (by rw[kG,hzl])
         rw[hz]at k4
         obtain rfl:=k4.pairs
         have hBlt:=(Array.getElem?_eq_some_iff.1 k3).1
         have ha1:=k1 Ll
         have hH:HoldsK gO 2 X.w B (base+off*2) l.toArray:=fun j hj=>by
          have hj':j<l.length*2:=by simpa using hj
          have hv:(kX l)[j]?=some ((flatK gO 2 l.toArray)[j]!):=by
           rw[← sx,Array.getElem?_toList,getElem!_pos _ j (by simpa using hj'),Array.getElem?_eq_getElem]
          have hcc:=k6 j _ hv
          constructor
          ·simp only[World.cell?,k3]
           simpa using hcc
          ·simp[World.frozen?,k3]
         have hcall:=AnyQ.slices_SortFunc L 2 aE zE gO (fun _=>rfl) (fun x v hv=>by simp[gO]at hv;rcases hv with rfl|rfl<;>rfl) (fun x y=>Lib.compareInt x.1 y.1) hswo gf #[] B (base+off*2) cap l.toArray X.w eg
          (fun m os dk hdk x y=>by simpa[gO] using hcmp x y (sortWorldK gO 2 X.w B (base+off*2) m dk os)) hH hBlt (by simp;omega)
         simp only[List.size_toArray,hzl]at hcall
         rw[ha1]
         refine hcall.mono ?_
         rintro e w' ⟨rfl,d',nd,os,hperm,hsort,rfl⟩
         obtain⟨m1,_,m3⟩:=hperm
         simp only[List.size_toArray,hzl]at m1
         have hperm:d'.toList.Perm l:=by
          have e1:(d'.extract 0 n).toList=d'.toList:=by rw[Array.toList_extract];simp[List.extract_eq_take_drop,List.take_of_length_le,m1]
          have e2:(l.toArray.extract 0 n).toList=l:=by rw[Array.toList_extract];simp[List.extract_eq_take_drop,List.take_of_length_le,hzl]
          rw[e1,e2]at m3
          exact m3
         have hpw:d'.toList.Pairwise (fun a b=>a.1≤b.1):=by
          rw[List.pairwise_iff_getElem]
          intro i j hi hj hij
          have:=hsort i j (Nat.zero_le _) hij (by simp at hj;omega)
          rw[hlt]at this
          simp at hi hj
          rw[getElem!_pos d' j Ll,getElem!_pos d' i Ll]at this
          simpa using this
         have hdl:d'.toList.length=n:=by simpa using m1
         obtain⟨B',base',C',T',vs',q1,q2,q3,q4,q5,q6,q7,q8⟩:=qP hX hid h1' hl (VCs.of_pairs d'.toList) (by rw[kG,hdl])
         have hq1:=q1 Ll
         rw[ha1]at hq1
         injection hq1 with hq1
         injection hq1 with hB hbb _
         subst hB
         have hbb:base=base':=by omega
         subst hbb
         rw[k3]at q3
         injection q3 with q3
         injection q3 with hC hT _
         subst hC hT
         have hfl:=sx d'.toList
         simp only[Array.toArray_toList]at hfl
         obtain⟨p1,p2,p3⟩:=oj (_root_.id:Value→Value) (n:=nd) (os:=os) (d:=flatK gO 2 d') k3 (by rw[size_flatK,m1];omega)
         rw[hfl,List.map_id]at p1
         have hw1:(sortWorldK gO 2 X.w B (base+off*2) nd d' os).os=X.w.os:=rfl
         have hw2:(sortWorldK gO 2 X.w B (base+off*2) nd d' os).output=X.w.output:=rfl
         have hsw:sortWorldK gO 2 X.w B (base+off*2) nd d' os=grow (putRow _root_.id (Sort.ahead X.w nd) B (base+off*2) (flatK gO 2 d')) os:=rfl
         rw[← hsw]at p1 p2 p3
         generalize sortWorldK gO 2 X.w B (base+off*2) nd d' os=W at p1 p2 p3 hw1 hw2 ⊢
         obtain⟨X',e1,e2,e3,e4⟩:=q8 W p3 hw1 hw2 p2 p1
         refine⟨.tup [],_,X',rfl,e1,e3,e4,.tup .nil,?_⟩
         rw[e2]
         exact hq _ hperm hpw
 ·rename_i n cs f c' cap'
  obtain⟨rfl,rfl,rfl,rfl,hq⟩:=hp
  cases hv with
  | cons h1 h2 =>
   cases h2 with
   | cons h2 h3 =>
    cases h3
    cases h1 with
    | one h1 =>
     cases h1 with
     | rd hr hc' hnc hf =>
      rename_i a cap vs
      refine(AnyF.slices_SortFunc_none L a cap _ X.w).mono ?_
      rintro e w' ⟨rfl,rfl⟩
      exact⟨.tup [],_,X,rfl,rfl,.refl X,hX,.tup .nil,hq⟩
 ·exact hp.elim
end
end
section
open Go
section
variable {φ:Phi} {P:Program} {X:Ctx}
open Go.Shelf in
theorem BI {ρ:Ren}(L:Lays8.n4 P ρ){e:Nat}(he:0<e)(i0:TypeInfo)(z:Value)(hi0:P.info? (ρ.t 25)=some i0)(hz0:i0.zero=some z)(hs0:i0.size=e)(hzs:z.cells.size=e)(hby:i0.bytes≤1024)
  {args:List AV} {vals:List Value} {Q:AV→ad→Prop} (hp:(qZ e).pt args X.h Q) (hX:bE φ X) (hv:VRs φ X args vals):Calls P (ρ.f 4) vals.toArray X.w (fi φ P X Q):=by
 simp only[qZ]at hp
 split at hp
 ·rename_i n
  obtain⟨h0,h1,hq0,hq1⟩:=hp
  obtain⟨m,rfl⟩:∃ m:Nat,n=m:=⟨n.toNat,by omega⟩
  cases hv with
  | cons v1 v2 =>
   cases v2 with
   | cons v2 v3 =>
    cases v3
    cases v2 with
    | one v2 =>
     cases v2
     cases v1 with
     | one v1 =>
      have v1':=v1
      cases v1 with
      | rd hr hc hnc hf =>
       rename_i a cap vs
       have hcap:cap=0:=hf rfl
       subst hcap
       by_cases hm:m=0
       ·subst hm
        refine(Any8.slices_Grow_room L a 0 0 0 X.w (Nat.le_refl _) Ll Ll Ll).mono ?_
        rintro e w' ⟨rfl,rfl⟩
        exact⟨_,_,X,rfl,rfl,.refl X,hX,.one (.one v1'),hq0 rfl⟩
       ·have hb:m*i0.bytes≤268435456*1024:=Nat.mul_le_mul Ll hby
        refine(Any8.slices_Grow_grow L i0 z hi0 hz0 Ll a 0 0 m [] X.w (Nat.le_refl _) Ll (by rw[Nat.zero_add];omega) Ll Lm (fun _=>rfl) (fun _ _ j v hj=>by simp at hj)).mono ?_
        rintro e' w' ⟨rfl,rfl⟩
        have hge:=grownCap_ge X.w (0+m) 0 (ρ.t 25)
        generalize grownCap X.w (0+m) 0 (ρ.t 25)=cap' at hge ⊢
        have hC:(([]:List Value).toArray++Builtin.zeroCells z.cells (0+m-0)++Builtin.zeroCells z.cells (cap'-(0+m))).size=cap'*e:=by
         simp only[Array.size_append,List.size_toArray,List.length_nil,nX,hzs]
         rw[Nat.zero_add,← Nat.add_mul,Nat.zero_add,Nat.sub_zero,show m+(cap'-m)=cap' by omega]
        generalize ([]:List Value).toArray++Builtin.zeroCells z.cells (0+m-0)++Builtin.zeroCells z.cells (cap'-(0+m))=C at hC ⊢
        have hd:X.w.drew.heap=X.w.heap:=rfl
        have hsz:(X.w.drew.alloc (.cells C (ρ.t 25))).heap.size=X.w.heap.size+1:=by
         show(X.w.drew.alloc (.cells C (ρ.t 25))).heap.size=X.w.drew.heap.size+1
         simp
        have hup:=hX.update (id:=X.w.heap.size) (g':=1) (cs':=[]) (B:=X.w.heap.size) (base:=0) (w':=X.w.drew.alloc (.cells C (ρ.t 25))) (C':=C) (T:=ρ.t 25) (vs:=[])
         (by rw[hsz];omega) rfl rfl (fun i hi _=>by rw[heap_alloc_old _ _ (by rw[hd];exact hi),hd]) (by have:=heap_alloc_new X.w.drew (.cells C (ρ.t 25));rwa [hd]at this) (by rw[hsz];omega) (.inr ⟨Nat.le_refl _,.inr ⟨Nat.le_refl _,rfl⟩⟩) Lm .nil (fun j v hj=>by simp at hj)
        refine⟨.own X.w.heap.size 1 e 0 0 none,_,_,rfl,rfl,hup.1,hup.2,.one (.one (.own ?_ (Nat.zero_le _) (fun _=>⟨_,rfl⟩) ?_)),hq1 Ll _ hX.fresh⟩
        ·show X.w.heap.size<(X.w.drew.alloc (.cells C (ρ.t 25))).heap.size
         rw[hsz];omega
        ·intro g' cs hg
         have hg2:iQ.cells 1 []=iQ.cells g' cs:=by simpa[ad.set] using hg
         injection hg2 with hg1 hg2
         subst hg1
         refine⟨Nat.le_refl _,fun _=>⟨X.w.heap.size,0,C,ρ.t 25,by simp,?_,fun _=>by simp[hd],by rw[hC,Nat.zero_add,Nat.zero_add];exact Nat.le_refl _,by show 0+(0+cap')*e=C.size;rw[hC,Nat.zero_add,Nat.zero_add]⟩⟩
         have:=heap_alloc_new X.w.drew (.cells C (ρ.t 25))
         rwa [hd]at this
 ·exact hp.elim
def J8 (W:World)(a:Addr)(m:Nat)(lo:Nat→Int):Prop :=
 ∃ B bo cap,a.spot=none∧W.cell? ⟨a.block,a.off,none⟩=some (.slice (some ⟨B,bo,none⟩) m cap)∧∀ i,i<m→∃ C co n c2,W.cell? ⟨B,bo+i,none⟩=some (.slice (some ⟨C,co,none⟩) n c2)∧1≤n∧W.cell? ⟨C,co,none⟩=some (.int .i64 (lo i))
theorem rZ {w W:World}{a:Addr}(h:W.heap[a.block]?=w.heap[a.block]?):W.cell? a=w.cell? a:=by simp only[World.cell?,h]
theorem IK (hX:bE φ X){id io ip gi gp m:Nat}{pc rest:List AV}{a:Addr}{blk base:Nat}(hκ:X.κ id=some (blk,base))(ho:X.h.get io=some (.cells gi (.own ip gp 1 0 m none::rest)))
  (hp:X.h.get ip=some (.cells gp pc)) (hpl:pc.length=m) (n1:id≠io) (n2:id≠ip) (hv:VC φ X (.ptr io gi 0) (.pointer (some a))) (hpc:∀ v∈pc,∃ k x y r f,v = .rd k (.int .i64 x :: .int .i64 y::r) f∧1≤k)
  (hm:0<m) {W:World} (hk:∀ i,i<X.w.heap.size→i≠blk→W.heap[i]?=X.w.heap[i]?):J8 W a m (fun i=>fM (pc.getD i .undef)):=by
 cases hv with
 | ptr hlt hg =>
  obtain⟨_,q⟩:=hg gi _ ho
  obtain⟨B,base1,hk1,rfl⟩:=q rfl
  obtain⟨B',b',C,T,vs,e1,e2,e3,e4,e5⟩:=hX.cells io gi _ ho
  rw[hk1]at e1
  injection e1 with e1
  injection e1 with eB eb
  subst eB eb
  cases e4 with
  | cons v1 v2 =>
   rename_i v0 vs0
   obtain⟨a2,cap2,B2,base2,C2,T2,vs2,rfl,l2,f2,_,_,k2,h2,l3,v3,c3⟩:=VC.of_own hX v1 hp
   have ha2:=f2 Ll
   rw[Nat.zero_mul,Nat.add_zero]at ha2
   subst ha2
   have hB1:B≠blk:=fun e=>n1 (hX.inj id io blk base base1 hκ (e ▸ hk1))
   have hB2:B2≠blk:=fun e=>n2 (hX.inj id ip blk base base2 hκ (e ▸ k2))
   have hl1:B<X.w.heap.size:=(hX.dom io B base1 hk1).1
   have hl2:B2<X.w.heap.size:=(hX.dom ip B2 base2 k2).1
   refine⟨B2,base2,cap2,rfl,?_,fun i hi=>?_⟩
   ·rw[rZ (w:=X.w) (hk _ hl1 hB1)]
    simp only[World.cell?,e2]
    have:=e5 0 _ rfl
    simpa using this
   ·have hil:i<pc.length:=by omega
    obtain⟨k,x,y,r,f,hpi,hk0⟩:=hpc pc[i] (List.getElem_mem _)
    obtain⟨v,hvi,hvv⟩:=v3.get (i:=i) (a:=pc[i]) (List.getElem?_eq_getElem hil)
    rw[hpi]at hvv
    have hlo:fM (pc.getD i .undef)=x:=by
     rw[List.getD_eq_getElem?_getD,List.getElem?_eq_getElem hil,Option.getD_some,hpi]
     rfl
    cases hvv with
    | rd hr hc hn hf =>
     rename_i a3 cap3 vs3
     obtain⟨a0,rfl,r1,r2,r3,r4⟩:=hr (.inl Ll)
     obtain⟨b0,o0,s0⟩:=a0
     simp only at r1 r2 r3 r4
     subst r1
     cases hc with
     | cons w1 w2 =>
      cases w1
      have hB3:b0≠blk:=fun e=>r3 (.inr ⟨id,base,e ▸ hκ⟩)
      refine⟨b0,o0,k,cap3,?_,hk0,?_⟩
      ·rw[rZ (w:=X.w) (hk _ hl2 hB2)]
       simp only[World.cell?,h2]
       have:=c3 i _ hvi
       simpa using this
      ·rw[rZ (w:=X.w) (hk _ r2 hB3)]
       have:=r4 0 _ rfl
       rw[Nat.add_zero]at this
       rw[this]
       simp only[hlo]
theorem z9 {m':Nat}:∀ {zs:List Int},(∀ z∈zs,0≤z∧z<((m'+1:Nat):Int))→(zs.map fun z=>Fin.ofNat (m'+1) z.toNat).map (fun f=>(f.val:Int))=zs
 | [],_=>rfl
 | z::zs,h=>by
  have h1:=h z Lm
  have h2:=z9 (zs:=zs) (fun q hq=>h q (by simp[hq]))
  simp only[List.map_cons,h2,Fin.ofNat]
  congr 1
  have:z.toNat%(m'+1)=z.toNat:=Nat.mod_eq_of_lt Ll
  omega
open Go.Sort Go.Shelf in
theorem yo {ρ:Ren}(L:SlLaysF.n6 P ρ){c:Nat}{gf:FuncId}(hc:φ c=some gf)(eg:∀ args w,(callFunc gf args).run P w = .ok (.enter gf args) w)
  (hcmp:∀ (a:Addr) (m:Nat) (lo:Nat→Int) (W:World),J8 W a m lo→∀ x y:Nat,x<m→y<m→Calls P gf #[.int .i64 x,.int .i64 y,.pointer (some a)] W fun e w'=>e = .returned (.int .i64 (Lib.compareInt (lo x) (lo y)))∧∃ q os',w'=grow (W.drewN q) os')
  {args:List AV} {vals:List Value} {Q:AV→ad→Prop} (hp:(ni c).pt args X.h Q) (hX:bE φ X) (hv:VRs φ X args vals):Calls P (ρ.f 6) vals.toArray X.w (fi φ P X Q):=by
 simp only[ni]at hp
 split at hp
 ·rename_i id g e off n lim c' io gi oi
  obtain⟨rfl,rfl,rfl,rfl,hp⟩:=hp
  cases hv with
  | cons h1 h2 =>
   cases h2 with
   | cons h2 h3 =>
    cases h3
    cases h1 with
    | one h1 =>
     cases h2 with
     | one h2 =>
      cases h2 with
      | fn hf hcap =>
       rename_i fid vcap
       rw[hc]at hf
       injection hf with hf
       subst hf
       have h1':=h1
       cases h1 with
       | own hlt' hlc ha hg =>
        rename_i a cap
        have hzero:n=0→∀ v:Value,Q (.tup []) X.h→Calls P (ρ.f 6) #[.slice a n cap,v] X.w (fi φ P X Q):=by
         rintro rfl v hq
         refine(AnyF.slices_SortFunc_none { L with } a cap _ X.w).mono ?_
         rintro e w' ⟨rfl,rfl⟩
         exact⟨.tup [],_,X,rfl,rfl,.refl X,hX,.tup .nil,hq⟩
        rcases hp with⟨rfl,⟨cs,hid⟩,hq⟩|⟨cs,zs,ip,gp,m,pc,rest,hid,hl,hn,hz,n1,n2,ho,hp,hpl,hzm,hpc,hq⟩
        ·exact hzero rfl _ hq
        have hzl:zs.length=n:=by
         have:=congrArg List.length hz
         simp[fC]at this
         omega
        by_cases hn0:n=0
        ·have hz0:zs=[]:=List.eq_nil_of_length_eq_zero Ll
         subst hz0
         have hq:=hq [] (.refl _) .nil
         have:X.h.set id (.cells g (fC []++cs.drop n))=X.h:=by
          apply ad.ext'
          funext i
          simp only[ad.set]
          split
          ·rename_i hi;rw[hi,hid,hn0];simp[fC]
          ·rfl
         rw[this]at hq
         exact hzero hn0 _ hq
        have hm0:0<m:=by
         cases zs with
         | nil=>simp at hzl;omega
         | cons z zs=>have:=hzm z Lm;omega
        obtain⟨m',rfl⟩:∃ m',m=m'+1:=⟨m-1,by omega⟩
        cases hcap with
        | cons hc1 hc2 =>
         rename_i vp vps
         cases hc2
         obtain⟨ap,rfl⟩:∃ ap,vp=Value.pointer (some ap):=by
          cases hc1 with
          | ptr _ _=>exact⟨_,rfl⟩
         obtain⟨a9,cap9,B9,base9,C9,T9,vs9,hx9,_,f9,_,_,k9,_,_,_,_⟩:=VC.of_own hX h1' hid
         injection hx9 with hx1 _ hx2
         subst hx1 hx2
         have ha9:=f9 Ll
         obtain⟨B,base,C,T,vs,k1,k2,k3,k4,k5,k6,k7,_⟩:=qP (as':=fC zs) hX hid h1' (by simpa using hl) (VCs.of_ints zs) (by simp[fC,hzl])
         have ha1:=k1 Ll
         simp only[Nat.zero_mul,Nat.mul_one,Nat.add_zero,List.drop_zero]at k4 k5 k6 k7 ha1 ha9
         rw[hz]at k4
         obtain rfl:=k4.ints
         rw[ha1]at ha9
         injection ha9 with ha9
         injection ha9 with hB9 hb9 _
         subst hB9 hb9
         have hBlt:=(Array.getElem?_eq_some_iff.1 k3).1
         have hfi:=z9 hzm
         generalize hfs:(zs.map fun z=>Fin.ofNat (m'+1) z.toNat)=fs at hfi
         have hfl:fs.length=n:=by rw[← hfs,List.length_map,hzl]
         have hH:Holds (fun f:Fin (m'+1)=>Value.int .i64 f.val) X.w B base fs.toArray:=fun j hj=>by
          have hj':j<fs.length:=by simpa using hj
          have hzj:zs[j]?=some (fs[j].val:Int):=by
           rw[← hfi,List.getElem?_map,List.getElem?_eq_getElem hj']
           rfl
          have hcc:=k6 j (.int .i64 fs[j].val) (by rw[List.getElem?_map,hzj];rfl)
          constructor
          ·simp only[World.cell?,k3]
           simp[hcc,hj']
          ·simp[World.frozen?,k3]
         have hlt:∀ x y:Fin (m'+1),ltOf (fun x y:Fin (m'+1)=>Lib.compareInt (fM (pc.getD x.val .undef)) (fM (pc.getD y.val .undef))) x y=decide (fM (pc.getD x.val .undef)<fM (pc.getD y.val .undef)):=fun x y=>by
          unfold ltOf Lib.compareInt
          show decide ((if fM (pc.getD x.val .undef)<fM (pc.getD y.val .undef) then(-1:Int) else if fM (pc.getD y.val .undef)<fM (pc.getD x.val .undef) then 1 else 0)<0)=_
          generalize fM (pc.getD x.val .undef)=p
          generalize fM (pc.getD y.val .undef)=q
          by_cases h1:p<q
          ·simp[h1]
          ·by_cases h2:q<p<;>simp[h1,h2]
         have hswo:SWO (ltOf fun x y:Fin (m'+1)=>Lib.compareInt (fM (pc.getD x.val .undef)) (fM (pc.getD y.val .undef))):={
          irrefl:=fun x=>by rw[hlt];simp
          trans:=fun x y z h1 h2=>by rw[hlt]at *;simp at *;omega
          ntrans:=fun x y z h1 h2=>by rw[hlt]at *;simp at *;omega }
         have hcall:=Any.slices_SortFunc L (fun f:Fin (m'+1)=>Value.int .i64 f.val) (fun _=>rfl) _ hswo gf #[.pointer (some ap)] B base cap fs.toArray X.w eg
          (fun md os dk hdk x y=>by
           have hk:∀ i,i<X.w.heap.size→i≠B→(sortWorld (fun f:Fin (m'+1)=>Value.int .i64 f.val) X.w B base md dk os).heap[i]?=X.w.heap[i]?:=by
            have:=(oj (fun f:Fin (m'+1)=>Value.int .i64 f.val) (n:=md) (os:=os) (off:=base) (d:=dk) k3 (by rw[hdk];simp only[List.size_toArray,hfl];omega)).2.1
            exact this
           exact hcmp ap (m'+1) _ _ (IK hX k9 ho hp hpl n1 n2 hc1 hpc hm0 hk) x.val y.val x.isLt y.isLt) hH hBlt (by simp;omega)
         simp only[List.size_toArray,hfl]at hcall
         rw[ha1]
         refine hcall.mono ?_
         rintro e w' ⟨rfl,d',nd,os,hperm,hsort,rfl⟩
         obtain⟨m1,_,m3⟩:=hperm
         simp only[List.size_toArray,hfl]at m1
         have hperm:d'.toList.Perm fs:=by
          have e1:(d'.extract 0 n).toList=d'.toList:=by rw[Array.toList_extract];simp[List.extract_eq_take_drop,List.take_of_length_le,m1]
          have e2:(fs.toArray.extract 0 n).toList=fs:=by rw[Array.toList_extract];simp[List.extract_eq_take_drop,List.take_of_length_le,hfl]
          rw[e1,e2]at m3
          exact m3
         have hperm2:(d'.toList.map fun f=>(f.val:Int)).Perm zs:=by
          have:=hperm.map (fun f=>(f.val:Int))
          rwa [hfi]at this
         have hpw:(d'.toList.map fun f=>(f.val:Int)).Pairwise (fun a b=>fM (pc.getD a.toNat .undef)≤fM (pc.getD b.toNat .undef)):=by
          rw[List.pairwise_map,List.pairwise_iff_getElem]
          intro i j hi hj hij
          have:=hsort i j (Nat.zero_le _) hij (by simp at hj;omega)
          rw[hlt]at this
          simp at hi hj
          rw[getElem!_pos d' j Ll,getElem!_pos d' i Ll]at this
          simpa using this
         obtain⟨B',base',C',T',vs',q1,q2,q3,q4,q5,q6,q7,q8⟩:=qP (as':=fC (d'.toList.map fun f=>(f.val:Int))) hX hid h1' (by simpa using hl) (VCs.of_ints _) (by simp[fC,m1])
         have hq1:=q1 Ll
         rw[ha1]at hq1
         injection hq1 with hq1
         injection hq1 with hB hbb _
         subst hB
         have hbb:base=base':=by omega
         subst hbb
         rw[k3]at q3
         injection q3 with q3
         injection q3 with hC hT _
         subst hC hT
         obtain⟨p1,p2,p3⟩:=oj (fun f:Fin (m'+1)=>Value.int .i64 f.val) (n:=nd) (os:=os) (off:=base) (d:=d') k3 (by rw[m1];omega)
         have hw1:(sortWorld (fun f:Fin (m'+1)=>Value.int .i64 f.val) X.w B base nd d' os).os=X.w.os:=rfl
         have hw2:(sortWorld (fun f:Fin (m'+1)=>Value.int .i64 f.val) X.w B base nd d' os).output=X.w.output:=rfl
         have hsw:sortWorld (fun f:Fin (m'+1)=>Value.int .i64 f.val) X.w B base nd d' os=grow (putRow (fun f:Fin (m'+1)=>Value.int .i64 f.val) (Sort.ahead X.w nd) B base d') os:=rfl
         rw[← hsw]at p1 p2 p3
         generalize sortWorld (fun f:Fin (m'+1)=>Value.int .i64 f.val) X.w B base nd d' os=W at p1 p2 p3 hw1 hw2 ⊢
         have p1':W.heap[B]?=some (.cells (cF C.toList (base+0*1) ((d'.toList.map fun f=>(f.val:Int)).map (.int .i64))).toArray T (0,0)):=by
          rw[p1,List.map_map]
          rfl
         obtain⟨X',e1,e2,e3,e4⟩:=q8 W p3 hw1 hw2 p2 p1'
         refine⟨.tup [],_,X',rfl,e1,e3,e4,.tup .nil,?_⟩
         rw[e2]
         have:=hq _ hperm2 hpw
         simpa using this
 ·exact hp.elim
end
end
end Go.Proofs.YtlnobeojgifojaaGreatDoor
