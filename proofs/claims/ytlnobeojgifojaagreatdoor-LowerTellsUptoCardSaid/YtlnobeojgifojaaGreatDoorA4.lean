/- What the heap holds; new objects; stores. -/
import Derived.Test.YtlnobeojgifojaaGreatDoorA3
import Derived.Laws.MakeOwn
import Derived.Laws.Append
import Derived.Laws.StructEq
import Derived.WalkSpells
import Derived.Lib.ConvBytes
import Derived.MapKept
set_option linter.unusedSimpArgs false
set_option linter.unusedVariables false
set_option linter.unusedSectionVars false
namespace Go.Proofs.YtlnobeojgifojaaGreatDoor
section
open Go
section
variable {φ:Phi} {num:FuncId→Option Nat} {P:Program} {X:Ctx} {n bs:Nat} {env:Env} {act:Act} {o:Oper} {v:AV}
theorem Az {t:TypeId}{ag:Bool}(ha:r6 P t=some ag)(w:World):(isAgg t).run P w = .ok ag w:=by
 unfold r6 at ha
 split at ha
 ·rename_i fs hu;injection ha with ha;subst ha;simp[isAgg,underlying,hu]
 ·rename_i m e hu;injection ha with ha;subst ha;simp[isAgg,underlying,hu]
 ·rename_i d h1 h2 hu
  injection ha with ha;subst ha
  cases d<;>simp_all[isAgg,underlying]
 ·cases ha
theorem lW {t:TypeId}{ag:Bool}{sz:Nat}{a:Addr}{cs:List AV}{vs:List Value}(ha:r6 P t=some ag)(hs:szT P t=some sz)(hsp:a.spot=none)(hc:VCs φ X cs vs)(hl:(if ag then sz else 1)≤cs.length)
  (hr:∀ j v,vs[j]?=some v→X.w.cell? ⟨a.block,a.off+j,none⟩=some v):∃ v',(loadVar t a).run P X.w = .ok v' X.w∧VT φ X (part ag 0 (if ag then sz else 1) cs) v':=by
 have hlen:=hc.length
 simp only[szT,Option.map_eq_some_iff]at hs
 obtain⟨info,hi,hsz⟩:=hs
 cases ag with
 | true =>
  simp only[if_true]at hl ⊢
  refine⟨.agg (vs.take sz).toArray,?_,.one (.agg (by simpa using hc.take sz))⟩
  have hrow:=run_loadCells_list (P:=P) (w:=X.w) a (vs.take sz) (fun j v hj=>by
   rw[Addr.add_plain _ hsp]
   have hlt:j<sz:=by
    have:=(List.getElem?_eq_some_iff.1 hj).1
    simp at this;omega
   rw[List.getElem?_take_of_lt hlt]at hj
   exact hr j v hj)
  rw[show(vs.take sz).length=sz by simp;omega]at hrow
  simp[loadVar,Az ha,sizeOf,typeInfo,hi,hsz,hrow]
 | false =>
  simp only[Bool.false_eq_true,if_false]at hl ⊢
  obtain⟨x,he⟩:∃ x,cs[0]?=some x:=⟨_,List.getElem?_eq_getElem Ll⟩
  obtain⟨y,h1,h2⟩:=hc.get he
  refine⟨y,?_,?_⟩
  ·have:=hr 0 y h1
   rw[Nat.add_zero,show(⟨a.block,a.off,none⟩:Addr)=a by cases a;simp_all]at this
   simp[loadVar,Az ha,run_load,this]
  ·simp only[part,Bool.false_eq_true,if_false,List.getD_eq_getElem?_getD,he,Option.getD_some]
   exact .one (.one h2)
theorem pW (vs:List Value)(o:Nat):cF vs o []=vs:=by simp[cF]
theorem zf (vs:List Value)(o:Nat)(v:Value)(ws:List Value)(h:o<vs.length):cF (vs.set o v) (o+1) ws=cF vs o (v::ws):=by
 unfold cF
 rw[List.set_eq_take_append_cons_drop,if_pos h]
 have e1:(vs.take o).length=o:=by simp;omega
 rw[List.take_append,List.drop_append,e1]
 simp only[List.take_of_length_le (show(vs.take o).length≤o+1 by omega),List.drop_eq_nil_of_le (show(vs.take o).length≤o+1+ws.length by omega)]
 rw[show o+1-o=1 by omega,show o+1+ws.length-o=ws.length+1 by omega]
 simp[List.drop_drop]
 congr 1
 omega
theorem od (w:World)(g:Nat)(cur:Array Value)(t:TypeId)(hg:w.heap[g]?=some (.cells cur t (0,0))):w.setRow g cur=w:=by
 have hlt:g<w.heap.size:=(Array.getElem?_eq_some_iff.1 hg).1
 have hv:w.heap[g] = .cells cur t (0,0):=(Array.getElem?_eq_some_iff.1 hg).2
 unfold World.setRow
 cases w with
 | mk heap tape drawn os output =>
  congr 1
  apply Array.ext
  ·simp
  ·intro k h1 h2
   simp only[Array.getElem_modify]
   split
   ·rename_i hk;subst hk;simp at hv;simp[hv]
   ·rfl
theorem jc (g:Nat)(t:TypeId)(o:Nat):∀ (vs:List Value) (i:Nat) (cur:Array Value) (w:World),w.heap[g]?=some (.cells cur t (0,0))→o+i+vs.length≤cur.size→(∀ v∈vs,v.oneCell'=true) →
  (storeCells ⟨g,o,none⟩ vs i).run P w = .ok () (w.setRow g (cF cur.toList (o+i) vs).toArray)
 | [],i,cur,w,hg,hl,_=>by
  rw[pW,Array.toArray_toList,od w g cur t hg]
  rfl
 | v::rest,i,cur,w,hg,hl,h1=>by
  have hi:o+i<cur.size:=by simp at hl;omega
  have hadd:(⟨g,o,none⟩:Addr).add i=⟨g,o+i,none⟩:=Addr.add_plain _ rfl i
  have hcell:w.cell? ⟨g,o+i,none⟩=some cur[o+i]:=by simp[World.cell?,hg,hi]
  have hfro:w.frozen? ⟨g,o+i,none⟩=false:=by simp[World.frozen?,hg]
  have hst:(store ((⟨g,o,none⟩:Addr).add i) v).run P w = .ok () (w.setRow g (cur.setIfInBounds (o+i) v)):=by
   rw[hadd,run_store P w _ v _ (h1 v Lm),hcell]
   simp[hfro,setCell_eq_setRow w g (o+i) cur t (0,0) v hg]
  have ih:=jc g t o rest (i+1) (cur.setIfInBounds (o+i) v) (w.setRow g (cur.setIfInBounds (o+i) v)) (setRow_heap w g cur _ t _ hg) (by simp at hl ⊢;omega) (fun x hx=>h1 x (by simp[hx]))
  simp only[storeCells,Sem.run_bind,hst,Result.andThen_ok,ih,setRow_setRow]
  rw[Array.toList_setIfInBounds,← Nat.add_assoc,zf _ _ _ _ (by simpa using hi)]
variable (hn:∀ f k,num f=some k→φ k=some f) (hR:Rel φ n bs X env act)
include hn hR
theorem E3 (ag:Bool)(off m:Nat)(cs:List AV):part ag off m cs=part ag 0 m (cs.drop off):=by
 cases ag
 ·simp[part,List.getD_eq_getElem?_getD]
 ·simp[part]
theorem II {t:TypeId}{x:Operand}{d:bA}{ag:Bool}{sz:Nat}(ho:o.op = .load t x)(ha:r6 P t=some ag)(hs:szT P t=some sz)(hd:cd num x=some d)
  {bx:Bool} (hv:bg env X.h (.load bx (if ag then sz else 1) ag d)=some v):iO φ P X o act v:=by
 have h1:=hR.ev hn hd
 simp only[bg]at hv
 generalize hm:(if ag then sz else 1)=m at hv
 split at hv
 ·rename_i id g off he
  rw[he]at h1
  have h2:=h1.vc rfl
  generalize hx:act.eval x=y at h2
  cases h2 with
  | ptr hid hg =>
   rename_i a
   split at hv
   ·rename_i g' cs hcs
    split at hv
    ·rename_i hc
     injection hv with hv;subst hv
     obtain⟨rfl,_,hl⟩:=hc
     obtain⟨B,base,k1,rfl⟩:=(hg g' cs hcs).2 rfl
     obtain⟨B2,base2,C,T,vs,q1,q2,q3,q4,q5⟩:=hR.heap.cells id g' cs hcs
     rw[k1]at q1
     injection q1 with q1
     injection q1 with e1 e2
     subst e1 e2
     have hlen:=q4.length
     subst hm
     obtain⟨v',r1,r2⟩:=lW (P:=P) (X:=X) (φ:=φ) (t:=t) (a:=⟨B,base+off,none⟩) (cs:=cs.drop off) (vs:=vs.drop off) ha hs rfl (q4.drop off) (by simp;omega) (fun j w hj=>by
      rw[List.getElem?_drop]at hj
      have:=q5 _ _ hj
      simp only[World.cell?,q2]
      rw[Nat.add_assoc]
      simpa using this)
     rw[E3 hn hR]
     exact⟨v',by simp[execOp,ho,hx,Instr.loadAt,Instr.sureAddr,r1],r2⟩
    ·cases hv
   ·cases hv
 ·rename_i cs he
  rw[he]at h1
  have h2:=h1.vc rfl
  generalize hx:act.eval x=y at h2
  cases h2 with
  | rp hr hc =>
   rename_i a vs
   split at hv
   ·rename_i hl
    injection hv with hv;subst hv
    obtain⟨r1,r2,r3,r4⟩:=hr
    subst hm
    obtain⟨v',q1,q2⟩:=lW (P:=P) (X:=X) (φ:=φ) (t:=t) (a:=a) ha hs r1 hc hl r4
    exact⟨v',by simp[execOp,ho,hx,Instr.loadAt,Instr.sureAddr,q1],q2⟩
   ·cases hv
 ·cases hv
theorem Dr {t e:TypeId}{x:Operand}{lo hi mx:Option Operand}{d:bA}{dlo dhi:Option bA}{m sz:Nat}(ho:o.op = .slice t x lo hi mx)(hmx:¬ mx.isSome=true)(ht:P.underlying t=some (.array m e))(hs:szT P e=some sz)
  (hd:cd num x=some d) (hlo:nW num lo=some dlo) (hhi:nW num hi=some dhi)
  (hv:bg env X.h (.sliceA m sz d dlo dhi)=some v):iO φ P X o act v:=by
 have h1:=hR.ev hn hd
 simp only[szT,Option.map_eq_some_iff]at hs
 obtain⟨info,hinfo,hsz⟩:=hs
 cases mx with
 | some _=>simp at hmx
 | none =>
 simp only[bg]at hv
 split at hv
 ·rename_i id g he
  split at hv
  ·rename_i g' cs hcs
   simp only[Option.bind_eq_some_iff]at hv
   obtain⟨l,e1,r,e2,hv⟩:=hv
   split at hv
   ·rename_i hc
    obtain⟨rfl,c0,c1,c2,c3⟩:=hc
    injection hv with hv;subst hv
    rw[he]at h1
    have h2:=h1.vc rfl
    generalize hx:act.eval x=y at h2
    cases h2 with
    | ptr hid hg =>
     rename_i a
     obtain⟨B,base,k1,rfl⟩:=(hg g' cs hcs).2 rfl
     obtain⟨B2,base2,C,T,vs,q1,q2,q3,q4,q5⟩:=hR.heap.cells id g' cs hcs
     rw[k1]at q1
     injection q1 with q1
     injection q1 with e3 e4
     subst e3 e4
     have o1:=qa hn hR hlo e1
     have o2:=qa hn hR hhi e2
     have hb:=lj (P:=P) X.w false m m (lo.map act.eval) (hi.map act.eval) none l.toNat r.toNat m
      (by
       rcases o1 with⟨rfl,_,rfl⟩|⟨y,_,k,rfl,_,hy⟩
       ·exact .inl ⟨rfl,rfl⟩
       ·exact .inr ⟨k,by simp[hy];omega⟩)
      (by
       rcases o2 with⟨rfl,_,rfl⟩|⟨y,_,k,rfl,_,hy⟩
       ·exact .inl ⟨rfl,rfl,by simp⟩
       ·exact .inr ⟨k,by simp[hy];omega⟩)
      (.inl ⟨rfl,rfl⟩) Ll Ll Ll
     refine⟨.slice (some (if m=l.toNat then(⟨B,base+0,none⟩:Addr) else(⟨B,base+0,none⟩:Addr).add (l.toNat*sz))) (r.toNat-l.toNat) (m-l.toNat),?_,.one (.one ?_)⟩
     ·simp[execOp,ho,hx,Instr.sliceAt,Instr.sureAddr,underlying,ht,sizeOf,typeInfo,hinfo,hsz,hb]
     ·rw[show(r-l).toNat=r.toNat-l.toNat by omega]
      refine VC.own hid Ll (fun _=>⟨_,rfl⟩) fun g2 cs2 e5=>?_
      obtain⟨k0,kq⟩:=hg g2 cs2 e5
      refine⟨k0,fun hgg=>⟨B,base,C,T,k1,q2,fun hlt=>?_,?_,rfl⟩⟩
      ·rw[if_neg Ll,Addr.add_plain _ rfl]
       simp[Nat.add_assoc]
      ·have:(l.toNat+(m-l.toNat))*sz=m*sz:=by rw[show l.toNat+(m-l.toNat)=m by omega]
       omega
   ·cases hv
  ·cases hv
 ·cases hv
theorem mj.length {kk:Option IntKind}:∀ {es:List (AV×AV)} {fs:List MapEntry},mj φ X kk es fs→es.length=fs.length
 | _,_,.nil=>rfl
 | _,_,.cons _ _ _ d=>by simp[mj.length d]
theorem Br {c:Call}{t:TypeId}{x:Operand}{d:bA}{k:Nat}(ho:o.op = .call c)(hc:c.callee = .builtin .len)(ha:c.args.toList=[x])(hat:c.argTypes.toList=[t])
  (ht:(k=1∧P.underlying t=some .string)∨(k=0∧∃ e,P.underlying t=some (.slice e))∨(k=2∧∃ k e,P.underlying t=some (.map k e))) (hd:cd num x=some d) (hv:bg env X.h (.len k d)=some v):iO φ P X o act v:=by
 have h1:=hR.ev hn hd
 have ha':c.args=#[x]:=Array.toList_inj.1 (by simpa using ha)
 have hat':c.argTypes=#[t]:=Array.toList_inj.1 (by simpa using hat)
 simp only[bg]at hv
 rcases ht with⟨rfl,ht⟩|⟨rfl,e,ht⟩|⟨rfl,k,e,ht⟩
 ·split at hv<;>first|(rename_i h;cases h;done)|(rename_i h _;cases h;done)|(cases hv;done)|skip
  rename_i s _ he
  injection hv with hv;subst hv
  rw[he]at h1
  refine⟨.int .i64 s.length,?_,.one (.one (.int _ _))⟩
  have hsz:(⟨s.toArray⟩:ByteArray).size=s.length:=by simp[ByteArray.size]
  simp[execOp,ho,resolve,hc,ha',h1.str,invoke,builtin,Builtin.len_,hat',underlying,ht,goInt,hsz]
 ·split at hv<;>first|(rename_i h;cases h;done)|(rename_i h _;cases h;done)|(cases hv;done)|skip
  ·rename_i m cs full _ he
   injection hv with hv;subst hv
   rw[he]at h1
   have h2:=h1.vc rfl
   generalize hx:act.eval x=y at h2
   cases h2 with
   | rd =>
    refine⟨.int .i64 m,?_,.one (.one (.int _ _))⟩
    simp[execOp,ho,resolve,hc,ha',hx,invoke,builtin,Builtin.len_,hat',underlying,ht,goInt]
  ·rename_i id g e2 off m lim _ he
   injection hv with hv;subst hv
   rw[he]at h1
   have h2:=h1.vc rfl
   generalize hx:act.eval x=y at h2
   cases h2 with
   | own =>
    refine⟨.int .i64 m,?_,.one (.one (.int _ _))⟩
    simp[execOp,ho,resolve,hc,ha',hx,invoke,builtin,Builtin.len_,hat',underlying,ht,goInt]
 ·split at hv<;>first|(rename_i h;cases h;done)|(rename_i h _;cases h;done)|(cases hv;done)|skip
  ·rename_i he
   injection hv with hv;subst hv
   rw[he]at h1
   have h2:=h1.vc rfl
   generalize hx:act.eval x=y at h2
   cases h2
   refine⟨.int .i64 0,?_,.one (.one (.int _ _))⟩
   simp[execOp,ho,resolve,hc,ha',hx,invoke,builtin,Builtin.len_,hat',underlying,ht,goInt]
  ·rename_i id _ he
   split at hv
   ·rename_i kk es hes
    injection hv with hv;subst hv
    rw[he]at h1
    have h2:=h1.vc rfl
    generalize hx:act.eval x=y at h2
    cases h2 with
    | map hid hg =>
     rename_i r
     have hk:=hg kk es hes
     obtain⟨B,ents,clock,q1,q2,q3⟩:=hR.heap.maps id kk es hes
     rw[hk]at q1
     injection q1 with q1
     injection q1 with e1 _
     subst e1
     refine⟨.int .i64 es.length,?_,.one (.one (.int _ _))⟩
     have hl:=mj.length hn hR q3.e
     have hgo:(getObj r).run P X.w = .ok (.map ents clock) X.w:=by simp[getObj,Sem.run,q2]
     simp[execOp,ho,resolve,hc,ha',hx,invoke,builtin,Builtin.len_,hat',underlying,ht,goInt,hgo]
     have:es.length=ents.size:=by simpa using hl
     omega
   ·cases hv
theorem lG (g0:Nat){w':World}{C:Array Value}{T:TypeId}{cs:List AV}{vs:List Value}(hw:w'=X.w.alloc (.cells C T))(hlen:cs.length≤C.size)(hvs:VCs φ X cs vs)(hc:∀ (j:Nat) (v:Value),vs[j]?=some v→C[j]?=some v) :
  ∃ X',X'.w=w'∧X'.h=X.h.set X.w.heap.size (.cells g0 cs)∧X'.κ X.w.heap.size=some (X.w.heap.size,0)∧Le X X'∧bE φ X':=by
 subst hw
 have:=hR.heap.update (id:=X.w.heap.size) (g':=g0) (cs':=cs) (B:=X.w.heap.size) (base:=0) (w':=X.w.alloc (.cells C T)) (C':=C) (T:=T) (vs:=vs)
  Lm rfl rfl (fun i hi _=>heap_alloc_old _ _ hi) (heap_alloc_new _ _) Lm (.inr ⟨Nat.le_refl _,.inr ⟨Nat.le_refl _,rfl⟩⟩) Ll hvs (fun j v hj=>by rw[Nat.zero_add];exact hc j v hj)
 exact⟨_,rfl,rfl,by simp,this.1,this.2⟩
def uZ (φ:Phi)(P:Program)(X:Ctx)(o:Oper)(act:Act)(ob:iQ)(f:Nat→AV):Prop :=
 ∃ v' w' X',(execOp act.eval o).run P X.w = .ok (.value v') w'∧X'.w=w'∧X'.h=X.h.set X.w.heap.size ob∧Le X X'∧bE φ X'∧VT φ X' (f X.w.heap.size) v'
theorem HX {t:TypeId}{zs:List AV}(ho:o.op = .alloc t)(hz:ml num P t=some zs):uZ φ P X o act (.cells 0 zs) (fun id => .ptr id 0 0):=by
 obtain⟨i,z,hi,hz1,hz2⟩:=mQ (φ:=φ) (X:=X) hn hR hz
 obtain⟨X',e1,e2,e3,e4,e5⟩:=lG hn hR 0 (T:=t) (C:=z.cells) rfl (by have:=hz2.length;simp at this;omega) hz2 (fun j v hj=>by simpa using hj)
 refine⟨.pointer (some ⟨X.w.heap.size,0,none⟩),_,X',?_,e1,e2,e4,e5,.one (.one (.ptr (by rw[e1];simp) fun g' cs' e=>?_))⟩
 ·simp[execOp,ho,Instr.alloc,zeroValue,typeInfo,hi,hz1,newVar,newRow]
 ·rw[e2]at e
  simp[ad.set]at e
  exact⟨by omega,fun _=>⟨_,0,e3,rfl⟩⟩
theorem J3 {t:TypeId}{x:Operand}{d:bA}(ho:o.op = .box t x)(hd:cd num x=some d)(hval:(ev env d).isVal=true):uZ φ P X o act (.cells 0 (ev env d).cells) (fun id => .ptr id 0 0):=by
 have h1:=(hR.ev hn hd).val hval
 obtain⟨X',e1,e2,e3,e4,e5⟩:=lG hn hR 0 (T:=t) (C:=(act.eval x).cells) rfl (by have:=h1.length;simp at this;omega) h1 (fun j v hj=>by simpa using hj)
 refine⟨.pointer (some ⟨X.w.heap.size,0,none⟩),_,X',?_,e1,e2,e4,e5,.one (.one (.ptr (by rw[e1];simp) fun g' cs' e=>?_))⟩
 ·simp[execOp,ho,Instr.box,newVar,newRow]
 ·rw[e2]at e
  simp[ad.set]at e
  exact⟨by omega,fun _=>⟨_,0,e3,rfl⟩⟩
theorem GV {t:TypeId}{kk:Option IntKind}(ho:o.op = .makeMap t none):uZ φ P X o act (.map kk []) .map:=by
 have:=hR.heap.updateMap (id:=X.w.heap.size) (kk:=kk) (es':=[]) (B:=X.w.heap.size) (w':=X.w.alloc (.map #[] 0)) (ents:=#[]) (clock:=0)
  Lm rfl rfl (fun i hi _=>heap_alloc_old _ _ hi) (heap_alloc_new _ _) Lm (.inr ⟨Nat.le_refl _,Nat.le_refl _⟩) ⟨.nil,MapKept.stamped_empty _⟩
 refine⟨.map (some X.w.heap.size),_,_,?_,rfl,rfl,this.1,this.2,.one (.one (.map Lm fun kk es e=>by simp))⟩
 simp[execOp,ho,Instr.makeMap]
theorem Bf {t e:TypeId}{l c:Operand}{z:List AV}{dl dc:bA}{ob:iQ}{f:Nat→AV}(ho:o.op = .makeSlice t l c)(ht:P.underlying t=some (.slice e))(hz:ml num P e=some z)(hs:szT P e=some z.length)(h0:0<z.length)(hsm:rE P e=true)
  (hl:cd num l=some dl) (hc:cd num c=some dc) (hv:gT env (.mkslice z dl dc)=some (ob,f)):uZ φ P X o act ob f:=by
 have h1:=hR.ev hn hl
 have h2:=hR.ev hn hc
 simp only[gT]at hv
 split at hv
 ·rename_i k m k' q he1 he2
  split at hv
  ·rename_i hb
   obtain⟨b1,b2,b3⟩:=hb
   injection hv with hv
   injection hv with hv1 hv2
   subst hv1 hv2
   rw[he1]at h1
   rw[he2]at h2
   obtain⟨i,z0,hi,hz1,hz2⟩:=mQ (φ:=φ) (X:=X) hn hR hz
   have hzl:=hz2.length
   simp at hzl
   simp only[szT,hi,Option.map_some,Option.some.injEq]at hs
   simp only[rE,hi,decide_eq_true_eq]at hsm
   have hm32:kH=4294967296:=rfl
   have hC:=o6 hn hR z0.cells Ll q.toNat
   obtain⟨X',e1,e2,e3,e4,e5⟩:=lG hn hR 1 (T:=e) (C:=(Array.range (q.toNat*z0.cells.size)).map (fun i=>z0.cells[i%z0.cells.size]!)) (cs:=(List.replicate m.toNat z).flatten) (vs:=(List.replicate m.toNat z0.cells.toList).flatten) rfl
    (by
     simp
     rw[hzl]
     exact Nat.mul_le_mul_right _ Ll)
    (hz2.replicate _)
    (by
     intro j w hj
     rw[← Array.getElem?_toList,hC]
     have:List.replicate q.toNat z0.cells.toList=List.replicate m.toNat z0.cells.toList++List.replicate (q.toNat-m.toNat) z0.cells.toList:=by
      rw[List.replicate_append_replicate];congr 1;omega
     rw[this,List.flatten_append,List.getElem?_append_left (List.getElem?_eq_some_iff.1 hj).1]
     exact hj)
   refine⟨.slice (some ⟨X.w.heap.size,0,none⟩) m.toNat q.toNat,_,X',?_,e1,e2,e4,e5,.one (.one (.own (by rw[e1];simp) Ll (fun _=>⟨_,rfl⟩) fun g' cs' e=>?_))⟩
   ·have hbq:(i.bytes:Int)*q≤281474976710656:=by
     have:(i.bytes:Int)*q≤8192*4294967296:=Int.mul_le_mul Ll Ll Ll Ll
     omega
    have hrun:=run_make (P:=P) X.w t e i z0 ht hi hz1 k k' m q b1 b2 hbq Ll
    rw[show i.size=z0.cells.size by omega]at hrun
    simp[execOp,ho,h1.int,h2.int,hrun,madeCells]
   ·rw[e2]at e
    simp[ad.set]at e
    refine⟨by omega,fun _=>⟨X.w.heap.size,0,_,_,e3,by rw[e1];exact heap_alloc_new _ _,fun _=>by simp,?_,?_⟩⟩
    ·simp;rw[hzl];exact Nat.le_refl _
    ·simp;rw[hzl]
  ·cases hv
 ·cases hv
theorem VC.of_ptr {id g off:Nat}{w:Value}(h:VC φ X (.ptr id g off) w){cs:List AV}(hc:X.h.get id=some (.cells g cs)):∃ B base C T vs,w = .pointer (some ⟨B,base+off,none⟩)∧X.κ id=some (B,base)∧X.w.heap[B]?=some (.cells C T (0,0))∧base+cs.length≤C.size∧VCs φ X cs vs∧∀ (j:Nat) (v:Value),vs[j]?=some v→C[base+j]?=some v:=by
 cases h with
 | ptr hid hg =>
  obtain⟨B,base,k1,rfl⟩:=(hg g cs hc).2 rfl
  obtain⟨B2,base2,C,T,vs,q1,q2,q3,q4,q5⟩:=hR.heap.cells id g cs hc
  rw[k1]at q1
  injection q1 with q1
  injection q1 with e1 e2
  subst e1 e2
  exact⟨B,base,C,T,vs,rfl,k1,q2,q3,q4,q5⟩
theorem wr {C:Array Value}{base off:Nat}{vs ws:List Value}(h:∀ (j:Nat) (v:Value),vs[j]?=some v→C[base+j]?=some v)(hb:base+vs.length≤C.size)(hl:off+ws.length≤vs.length) :
  ∀ (j:Nat) (v:Value),(cF vs off ws)[j]?=some v→(cF C.toList (base+off) ws).toArray[base+j]?=some v:=by
 intro j v hj
 have hjl:=(List.getElem?_eq_some_iff.1 hj).1
 rw[ep hl]at hjl
 have e1:(C.toList.take (base+off)).length=base+off:=by simp;omega
 have e2:(vs.take off).length=off:=by simp;omega
 unfold cF at hj ⊢
 simp only[List.getElem?_toArray]
 by_cases h1:j<off
 ·rw[List.append_assoc,List.getElem?_append_left Ll,List.getElem?_take_of_lt h1]at hj
  rw[List.append_assoc,List.getElem?_append_left Ll,List.getElem?_take_of_lt Ll]
  simpa using h j v hj
 ·by_cases h2:j<off+ws.length
  ·rw[List.append_assoc,List.getElem?_append_right Ll,e2,List.getElem?_append_left Ll]at hj
   rw[List.append_assoc,List.getElem?_append_right Ll,e1,List.getElem?_append_left Ll]
   rw[show base+j-(base+off)=j-off by omega]
   exact hj
  ·rw[List.append_assoc,List.getElem?_append_right Ll,e2,List.getElem?_append_right Ll,List.getElem?_drop]at hj
   rw[List.append_assoc,List.getElem?_append_right Ll,e1,List.getElem?_append_right Ll,List.getElem?_drop]
   rw[show off+ws.length+(j-off-ws.length)=j by omega]at hj
   rw[show base+off+ws.length+(base+j-(base+off)-ws.length)=base+j by omega]
   simpa using h j v hj
def CR (φ:Phi)(P:Program)(X:Ctx)(o:Oper)(act:Act)(v:AV)(h':ad):Prop :=
 ∃ v' w' X',((execOp act.eval o).run P X.w = .ok (.value v') w'∨(execOp act.eval o).run P X.w = .ok .skip w'∧v'=undef)∧X'.w=w'∧X'.h=h'∧Le X X'∧bE φ X'∧VT φ X' v v'
theorem F4 {t:TypeId}{x y:Operand}{d e:bA}{sz id g off:Nat}{cs:List AV}(ho:o.op = .store t x y)(hs:szT P t=some sz)(hd:cd num x=some d)(he:cd num y=some e)
  (hx:ev env d = .ptr id g off) (hc:X.h.get id=some (.cells g cs)) (hval:(ev env e).isVal=true) (hl:(ev env e).cells.length=sz) (hb:off+sz≤cs.length) :
  CR φ P X o act .undef (X.h.set id (.cells g (putCells cs off (ev env e).cells))):=by
 have h1:=hR.ev hn hd
 rw[hx]at h1
 obtain⟨B,base,C,T,vs,ew,k1,k2,k3,k4,k5⟩:=VC.of_ptr hn hR (h1.vc rfl) hc
 have h2:=(hR.ev hn he).val hval
 have hl2:=h2.length
 have hl4:=k4.length
 simp only[szT,Option.map_eq_some_iff]at hs
 obtain⟨info,hi,hsz⟩:=hs
 have hws:(act.eval y).cells.toList.length=sz:=by omega
 have hrun:=jc (P:=P) B T (base+off) (act.eval y).cells.toList 0 C X.w k2 Ll h2.oneCell
 have hup:=hR.heap.update (id:=id) (g':=g) (cs':=putCells cs off (ev env e).cells) (B:=B) (base:=base) (w':=X.w.setRow B (cF C.toList (base+off) (act.eval y).cells.toList).toArray)
  (C':=(cF C.toList (base+off) (act.eval y).cells.toList).toArray) (T:=T) (vs:=cF vs off (act.eval y).cells.toList)
  Lm rfl rfl (fun i _ hne=>setRow_other _ _ _ _ hne) (setRow_heap _ _ _ _ _ _ k2) (by simpa using hR.heap.ids _ _ hc)
  (.inl ⟨g,cs,base,C,hc,k1,k2,by simp[ep (show base+off+(act.eval y).cells.toList.length≤C.toList.length by simp at hws ⊢;omega)],Nat.le_refl _,fun _=>rfl⟩)
  (by
   have:(putCells cs off (ev env e).cells).length=cs.length:=by
    have:=(k4.put h2 off Ll).length
    rw[this,ep Ll];omega
   rw[this]
   simp[ep (show base+off+(act.eval y).cells.toList.length≤C.toList.length by simp at hws ⊢;omega)]
   omega)
  (k4.put h2 off Ll) (wr hn hR k5 Ll Ll)
 refine⟨undef,_,_,.inr ⟨?_,rfl⟩,rfl,rfl,hup.1,hup.2,.one (.undef _)⟩
 have hne:(act.eval y).cells.size=sz:=by simpa using hws
 rw[Nat.add_zero]at hrun
 simp[execOp,ho,ew,Instr.storeAt,Instr.sureAddr,storeVar,sizeOf,typeInfo,hi,hsz,hne,hrun]
end
end
section
open Go
section
variable {φ:Phi} {num:FuncId→Option Nat} {P:Program} {X:Ctx} {n bs:Nat} {env:Env} {act:Act} {o:Oper} {v:AV}
structure Src (P:Program)(w:World)(esz m:Nat)(x:Value)(ws:List Value):Prop where
 len:(Builtin.lenOf x).run P w = .ok m w
 cells:(Builtin.firstCells esz m x).run P w = .ok ws.toArray w
theorem sP {t u ty e:TypeId}{i:TypeInfo}{w:World}{base:Option Addr}{sLen sCap m:Nat}{x:Value}{ws:List Value}(ht:P.underlying t=some (.slice e))(hu:(∃ e',P.underlying u=some (.slice e'))∨P.underlying u=some .string)(hi:P.info? e=some i)
  (hx:Src P w i.size m x ws) (hc:sLen+m≤sCap) :
  (Builtin.append_ #[t,u] ty #[.slice base sLen sCap,x]).run P w=((match base with
   | some a=>storeCells (a.add (sLen*i.size)) ws
   | none=>pure ()) >>= fun _=>pure (Value.slice base (sLen+m) sCap)).run P w:=by
 obtain⟨h1,h2⟩:=hx
 rcases hu with⟨e',hu⟩|hu
 all_goals
  simp only[Builtin.append_]
  cases base<;>simp[underlying,ht,hu,sizeOf,typeInfo,hi,h1,h2,hc]
theorem rG {t u ty e:TypeId}{i:TypeInfo}{z:Value}{w:World}{base:Option Addr}{sLen sCap m:Nat}{x:Value}{old ws:List Value}(ht:P.underlying t=some (.slice e))(hu:(∃ e',P.underlying u=some (.slice e'))∨P.underlying u=some .string)(hi:P.info? e=some i)(hz:i.zero=some z)
  (hb0:0<i.bytes) (hb:i.bytes≤8192) (hn:sLen+m≤kH) (hx:∀ w',w'.heap=w.heap→Src P w' i.size m x ws) (hold:∀ w',w'.heap=w.heap→(Builtin.firstCells i.size sLen (.slice base sLen sCap)).run P w' = .ok old.toArray w') (hc:sCap<sLen+m) :
  ∃ (newCap:Nat) (w1:World),sLen+m≤newCap∧w1.heap=w.heap∧w1.os=w.os∧w1.output=w.output∧(Builtin.append_ #[t,u] ty #[.slice base sLen sCap,x]).run P w =
   .ok (.slice (some ⟨w.heap.size,0,none⟩) (sLen+m) newCap) (w1.alloc (.cells ((old++ws).toArray++Builtin.zeroCells z.cells (newCap-(sLen+m))) e)):=by
 have hm32:kH=4294967296:=rfl
 have hnc:¬ sLen+m≤sCap:=by omega
 have hfit:¬ (281474976710656<Builtin.nextslicecap (sLen+m) sCap*i.bytes):=by
  have:=growslice_fits (need:=sLen+m) (old:=sCap) (bytes:=i.bytes) hc (by
   have:(sLen+m)*i.bytes≤4294967296*8192:=Nat.mul_le_mul Ll hb
   omega)
  omega
 have hb0':i.bytes≠0:=by omega
 obtain⟨x1,x2⟩:=hx w rfl
 obtain⟨y1,y2⟩:=hx w.drew rfl
 have y3:=hold w.drew rfl
 refine⟨(Question.appendCap (sLen+m) sCap e).cut (w.tape w.drawn (.appendCap (sLen+m) sCap e)),w.drew,?_,rfl,rfl,rfl,?_⟩
 ·show sLen+m≤(Question.appendCap (sLen+m) sCap e).cut _
  simp[Question.cut]
 ·rcases hu with⟨e',hu⟩|hu
  all_goals
   simp[Builtin.append_,run_underlying ht,run_underlying hu,sizeOf,typeInfo,hi,zeroValue,hz,x1,hnc,hb0',hfit,Question.forced,newRow,y2,y3]
   congr 2
   apply Array.ext'
   simp[List.append_assoc]
theorem VC.of_own (hR:bE φ X){id g esz off len:Nat}{lim:Option Nat}{w:Value}(h:VC φ X (.own id g esz off len lim) w){cs:List AV}(hc:X.h.get id=some (.cells g cs)) :
  ∃ a cap B base C T vs,w = .slice a len cap∧len≤cap∧(0<cap→a=some ⟨B,base+off*esz,none⟩)∧base+(off+cap)*esz≤C.size∧(match lim with
   | none=>base+(off+cap)*esz=C.size
   | some c=>cap=c)∧X.κ id=some (B,base)∧X.w.heap[B]?=some (.cells C T (0,0))∧base+cs.length≤C.size∧VCs φ X cs vs∧∀ (j:Nat) (v:Value),vs[j]?=some v→C[base+j]?=some v:=by
 cases h with
 | own hid hl ha hg =>
  rename_i a cap
  obtain⟨B,base,C,T,k1,k2,k3,k4,k5⟩:=(hg g cs hc).2 rfl
  obtain⟨B2,base2,C2,T2,vs,q1,q2,q3,q4,q5⟩:=hR.cells id g cs hc
  rw[k1]at q1
  injection q1 with q1
  injection q1 with e1 e2
  subst e1 e2
  rw[k2]at q2
  injection q2 with q2
  injection q2 with e1 e2
  subst e1 e2
  exact⟨a,cap,B,base,C,T,vs,rfl,hl,k3,k4,k5,k1,k2,q3,q4,q5⟩
theorem kh {w:World}{esz m len cap:Nat}{a:Addr}{ws:List Value}(hl:ws.length=m*esz)(hs:a.spot=none)(h:∀ (j:Nat) (v:Value),ws[j]?=some v→w.cell? ⟨a.block,a.off+j,none⟩=some v) :
  (Builtin.firstCells esz m (.slice (some a) len cap)).run P w = .ok ws.toArray w:=by
 have:=run_loadCells_list (P:=P) (w:=w) a ws (fun j v hj=>by rw[Addr.add_plain _ hs];exact h j v hj)
 rw[hl]at this
 simpa[Builtin.firstCells] using this
theorem lO {C:Array Value}{base off len esz:Nat}{cs:List AV}{vs:List Value}(hvs:VCs φ X cs vs)(hC:∀ (j:Nat) (v:Value),vs[j]?=some v→C[base+j]?=some v)(hl:(off+len)*esz≤cs.length) :
  VCs φ X ((cs.drop (off*esz)).take (len*esz)) ((vs.drop (off*esz)).take (len*esz))∧((vs.drop (off*esz)).take (len*esz)).length=len*esz ∧
  ∀ (j:Nat) (v:Value),((vs.drop (off*esz)).take (len*esz))[j]?=some v→C[base+off*esz+j]?=some v:=by
 have hlen:=hvs.length
 have h2:((vs.drop (off*esz)).take (len*esz)).length=len*esz:=by
  rw[Nat.add_mul]at hl
  simp;omega
 refine⟨(hvs.drop _).take _,h2,fun j v hj=>?_⟩
 have hj2:=(List.getElem?_eq_some_iff.1 hj).1
 rw[List.getElem?_take_of_lt Ll,List.getElem?_drop]at hj
 rw[Nat.add_assoc]
 exact hC _ _ hj
theorem oN {w:World}{B k:Nat}{C:Array Value}{T:TypeId}(h:w.heap[B]?=some (.cells C T (0,0))):w.cell? ⟨B,k,none⟩=C[k]?:=by simp[World.cell?,h]
theorem xG (hR:bE φ X){esz m:Nat}{a:AV}{x:Value}{new:List AV}(hx:VC φ X a x)(h:bB X.h esz a=some (m,new)) :
  ∃ ws,VCs φ X new ws∧ws.length=m*esz∧∀ w',w'.heap=X.w.heap→Src P w' esz m x ws:=by
 unfold bB at h
 split at h
 ·rename_i k cs full
  split at h
  ·rename_i hl
   injection h with h
   injection h with h1 h2
   subst h1 h2
   cases hx with
   | rd hr hc hnc hf =>
    rename_i a cap vs
    have hlen:=hc.length
    refine⟨vs,hc,by omega,fun w' hw=>⟨by simp[Builtin.lenOf],?_⟩⟩
    by_cases hk:k≠0∨vs≠[]
    ·obtain⟨a0,rfl,r1,r2,r3,r4⟩:=hr hk
     exact kh Ll r1 fun j v hj=>(cell?_congr (by rw[hw])).trans (r4 j v hj)
    ·have hk0:k=0:=Decidable.byContradiction fun h=>hk (.inl h)
     have hv0:vs=[]:=Decidable.byContradiction fun h=>hk (.inr h)
     subst hk0 hv0
     cases a<;>simp[Builtin.firstCells,loadCells,loadCellsFrom]
  ·cases h
 ·rename_i id g e off len lim
  split at h
  ·rename_i g' cs hcs
   split at h
   ·rename_i hl
    obtain⟨rfl,rfl,hl⟩:=hl
    injection h with h
    injection h with h1 h2
    subst h1 h2
    obtain⟨a,cap,B,base,C,T,vs,rfl,hlc,ha,hC,hlim,k1,k2,k3,k4,k5⟩:=VC.of_own hR hx hcs
    obtain⟨q1,q2,q3⟩:=lO k4 k5 hl
    refine⟨_,q1,q2,fun w' hw=>⟨by simp[Builtin.lenOf],?_⟩⟩
    by_cases h0:cap=0
    ·have:len=0:=by omega
     subst this
     cases a<;>simp[Builtin.firstCells,loadCells,loadCellsFrom]
    ·rw[ha Ll]
     refine kh q2 rfl fun j v hj=>?_
     rw[cell?_congr (w:=X.w) (by rw[hw]),oN k2]
     exact q3 j v hj
   ·cases h
  ·cases h
 ·rename_i s
  split at h
  ·rename_i he
   subst he
   injection h with h
   injection h with h1 h2
   subst h1 h2
   cases hx
   refine⟨s.map fun b => .int .u8 b.toNat,?_,by simp,fun w' _=>⟨by simp[Builtin.lenOf,ByteArray.size],?_⟩⟩
   ·clear hR
    induction s with
    | nil=>exact .nil
    | cons b s ih=>exact .cons (.int _ _) ih
   ·have hex:(⟨s.toArray⟩:ByteArray).extract 0 s.length=⟨s.toArray⟩:=by
     apply ByteArray.ext
     rw[ByteArray.data_extract]
     apply Array.toList_inj.1
     simp[List.extract_eq_take_drop]
    simp[Builtin.firstCells,hex]
  ·cases h
 ·cases h
theorem nX (z:Array Value)(k:Nat):(Builtin.zeroCells z k).size=k*z.size:=by simp[Builtin.zeroCells]
structure Ka (num:FuncId→Option Nat)(P:Program)(o:Oper)(x y:Operand)(esz:Nat):Prop where
 op:∃ c t u e,o.op = .call c∧c.callee = .builtin .append∧c.args=#[x,y]∧c.argTypes=#[t,u]∧P.underlying t=some (.slice e)∧((∃ e',P.underlying u=some (.slice e'))∨P.underlying u=some .string) ∧
  szT P e=some esz∧0<esz∧rE P e=true∧(ml num P e).map (·.length)=some esz
def pP (φ:Phi)(P:Program)(X:Ctx)(o:Oper)(act:Act):Res→Prop
 | .val v h'=>CR φ P X o act v h'
 | .new ob f=>uZ φ P X o act ob f
 | .both f=>∃ b v',(execOp act.eval o).run P X.w = .ok (.value v') X.w∧VT φ X (f b) v'
variable (hn:∀ f k,num f=some k→φ k=some f) (hR:Rel φ n bs X env act)
include hn hR
theorem sI {x y:Operand}{esz m sLen:Nat}{base:Option Addr}{sCap:Nat}{old new:List AV}{vold ws:List Value}(hA:Ka num P o x y esz)(hx:act.eval x = .slice base sLen sCap)
  (hold:VCs φ X old vold) (hol:vold.length=sLen*esz) (holds:∀ w',w'.heap=X.w.heap→(Builtin.firstCells esz sLen (.slice base sLen sCap)).run P w' = .ok vold.toArray w')
  (hnew:VCs φ X new ws) (hnl:ws.length=m*esz) (hsrc:∀ w',w'.heap=X.w.heap→Src P w' esz m (act.eval y) ws) (hle:sLen+m≤kH) (hc:sCap<sLen+m) :
  ∃ (newCap:Nat) (w1:World) (C:Array Value) (e:TypeId),sLen+m≤newCap∧w1.heap=X.w.heap∧w1.os=X.w.os∧w1.output=X.w.output ∧
   (execOp act.eval o).run P X.w = .ok (.value (.slice (some ⟨X.w.heap.size,0,none⟩) (sLen+m) newCap)) (w1.alloc (.cells C e))∧C.size=newCap*esz ∧
   ∀ (j:Nat) (v:Value),(vold++ws)[j]?=some v→C[j]?=some v:=by
 obtain⟨c,t,u,e,h1,h2,h3,h4,h5,h6,h7,h8,h9,h10⟩:=hA.op
 simp only[Option.map_eq_some_iff]at h10
 obtain⟨zs,hz,hzl⟩:=h10
 obtain⟨i,z,hi,hz1,hz2⟩:=mQ (φ:=φ) (X:=X) hn hR hz
 have hzl2:=hz2.length
 simp only[szT,hi,Option.map_some,Option.some.injEq]at h7
 simp only[rE,hi,decide_eq_true_eq]at h9
 subst h7
 obtain⟨newCap,w1,g1,g2,g3,g4,g5⟩:=rG (P:=P) (t:=t) (u:=u) (ty:=o.type) (i:=i) (z:=z) (w:=X.w) (base:=base) (sLen:=sLen) (sCap:=sCap) (m:=m) (x:=act.eval y) (old:=vold) (ws:=ws)
  h5 h6 hi hz1 h9.1 h9.2 hle hsrc holds hc
 refine⟨newCap,w1,(vold++ws).toArray++Builtin.zeroCells z.cells (newCap-(sLen+m)),e,g1,g2,g3,g4,?_,?_,?_⟩
 ·simp[execOp,h1,resolve,h2,h3,h4,hx,invoke,builtin,g5]
 ·have hzs:z.cells.size=i.size:=by simp at hzl2;omega
  simp only[Array.size_append,List.size_toArray,List.length_append,nX,hzs]
  rw[hol,hnl,← Nat.add_mul,← Nat.add_mul]
  congr 1
  omega
 ·intro j w hj
  rw[Array.getElem?_append_left (by simpa using (List.getElem?_eq_some_iff.1 hj).1)]
  simpa using hj
theorem uV {x y:Operand}{esz m sLen:Nat}{base:Option Addr}{sCap:Nat}{old new:List AV}{vold ws:List Value}(hA:Ka num P o x y esz)(hx:act.eval x = .slice base sLen sCap)
  (hold:VCs φ X old vold) (hol:vold.length=sLen*esz) (holds:∀ w',w'.heap=X.w.heap→(Builtin.firstCells esz sLen (.slice base sLen sCap)).run P w' = .ok vold.toArray w')
  (hnew:VCs φ X new ws) (hnl:ws.length=m*esz) (hsrc:∀ w',w'.heap=X.w.heap→Src P w' esz m (act.eval y) ws) (hle:sLen+m≤kH) (hc:sCap<sLen+m) :
  uZ φ P X o act (.cells 1 (old++new)) (fun id => .own id 1 esz 0 (sLen+m) none):=by
 obtain⟨newCap,w1,C,e,g1,g2,g3,g4,g5,g6,g7⟩:=sI hn hR hA hx hold hol holds hnew hnl hsrc hle hc
 obtain⟨t1,t2⟩:=hR.heap.turn (w':=w1) g2 g3 g4
 have hR1:=hR.le t1 t2
 have hs:({ X with w:=w1 }:Ctx).w.heap.size=X.w.heap.size:=by simp[g2]
 have hl:(old++new).length=(sLen+m)*esz:=by
  rw[List.length_append,hold.length,hnew.length,hol,hnl,Nat.add_mul]
 have hlC:(old++new).length≤C.size:=by
  rw[hl,g6]
  exact Nat.mul_le_mul_right _ g1
 obtain⟨X',e1,e2,e3,e4,e5⟩:=lG hn hR1 1 (T:=e) (C:=C) (cs:=old++new) (vs:=vold++ws) rfl hlC ((hold.append hnew).le t1) g7
 rw[hs]at e2 e3
 refine⟨_,_,X',g5,e1,e2,t1.trans e4,e5,.one (.one (.own (by rw[e1];simp[g2]) g1 (fun _=>⟨_,rfl⟩) fun g' cs' he=>?_))⟩
 rw[e2]at he
 simp[ad.set]at he
 refine⟨by omega,fun _=>⟨X.w.heap.size,0,C,e,e3,by rw[e1,← hs];exact heap_alloc_new _ _,fun _=>by simp,?_,?_⟩⟩
 ·simp[g6]
 ·simp[g6]
theorem xf {x y:Operand}{d e:bA}{esz:Nat}{r:Res}(hA:Ka num P o x y esz)(hd:cd num x=some d)(he:cd num y=some e)(hv:dr env X.h (.append esz d e)=some r):pP φ P X o act r:=by
  have h1:=hR.ev hn hd
  have h2:=hR.ev hn he
  simp only[dr,Option.bind_eq_some_iff]at hv
  obtain⟨⟨m,new⟩,hsrc,hv⟩:=hv
  have hcell:(ev env e).oneCell=true:=by
    generalize ev env e=a at hsrc
    cases a<;>simp[bB]at hsrc<;>rfl
  obtain⟨ws,s1,s2,s3⟩:=xG (P:=P) hR.heap (h2.vc hcell) hsrc
  have hroom:∀ base sLen sCap,act.eval x = .slice base sLen sCap→sLen+m≤sCap→(execOp act.eval o).run P X.w=(((match base with
      | some a=>storeCells (a.add (sLen*esz)) ws
      | none=>pure ()) >>= fun _=>pure (Value.slice base (sLen+m) sCap)).run P X.w).andThen fun a w' => .ok (.value a) w':=fun base sLen sCap hx hc=>by
    obtain⟨c,t,u,e',k1,k2,k3,k4,k5,k6,k7,k8,k9,k10⟩:=hA.op
    simp only[szT,Option.map_eq_some_iff]at k7
    obtain⟨i,hi,rfl⟩:=k7
    have:=sP (P:=P) (ty:=o.type) (base:=base) k5 k6 hi (s3 X.w rfl) hc
    simp only[execOp,k1,resolve,k2,k3,k4,hx,invoke,builtin,Sem.run_bind]
    simp only[List.map_toArray,List.map_cons,List.map_nil,hx,Sem.run_pure,Result.andThen_ok]
    simp only[Sem.run_bind]
    rw[this]
    cases base<;>simp
  split at hv
  · rename_i k cs full hxe
    split at hv
    · rename_i hc
      obtain⟨c1,c2⟩:=hc
      rw[hxe]at h1
      have hsx:bB X.h esz (.rd k cs full)=some (k,cs):=by simp[bB,c1]
      obtain⟨vold,o1,o2,o3⟩:=xG (P:=P) hR.heap (h1.vc rfl) hsx
      have hvc:=h1.vc rfl
      split at hv
      · rename_i hm
        subst hm
        injection hv with hv;subst hv
        have hw0:ws=[]:=List.eq_nil_of_length_eq_zero Ll
        subst hw0
        generalize hx:act.eval x=yv at hvc h1
        cases hvc with
        | rd hr hcs hnc hf =>
          rename_i a cap vs
          refine⟨.slice a k cap,X.w,X,.inl ?_,rfl,rfl,.refl X,hR.heap,by rw[hxe];exact h1⟩
          rw[hroom a k cap hx Ll]
          cases a<;>simp[storeCells]
      · split at hv
        · rename_i hm hfull
          injection hv with hv;subst hv
          generalize hx:act.eval x=yv at hvc
          cases hvc with
          | rd hr hcs hnc hf =>
            rename_i a cap vs
            have hcap:=hf hfull
            rw[hx]at o3
            exact uV hn hR hA hx o1 o2 (fun w' hw=>(o3 w' hw).cells) s1 s2 s3 c2 Ll
        · cases hv
    · cases hv
  · rename_i id g e' off len lim hxe
    split at hv
    · rename_i g' cs hcs
      split at hv
      · rename_i hc
        obtain⟨rfl,cg,rfl,c1,c2⟩:=hc
        rw[hxe]at h1
        have hvc:=h1.vc rfl
        have hsx:bB X.h e' (.own id g' e' off len lim)=some (len,(cs.drop (off*e')).take (len*e')):=by simp[bB,hcs,c2]
        obtain⟨vold,o1,o2,o3⟩:=xG (P:=P) hR.heap hvc hsx
        obtain⟨a,cap,B,base,C,T,vs,hx,hlc,ha,hC,hlim,k1,k2,k3,k4,k5⟩:=VC.of_own hR.heap hvc hcs
        obtain⟨q1,q2,q3⟩:=lO k4 k5 c2
        rw[hx]at o3
        cases lim with
        | none =>
          simp only at hv hlim
          · injection hv with hv;subst hv
            by_cases hfit:len+m≤cap
            · -- in place
              have hsplit:ws≠[]→a=some ⟨B,base+off*e',none⟩:=fun hne=>ha (by
                have:ws.length≠0:=fun h=>hne (List.eq_nil_of_length_eq_zero h)
                rw[s2]at this
                have:m≠0:=fun h=>this (by simp[h])
                omega)
              have hbound:base+off*e'+len*e'+ws.length≤C.size:=by
                rw[s2]
                have:(off+(len+m))*e'≤(off+cap)*e':=Nat.mul_le_mul_right _ Ll
                simp only[Nat.add_mul]at this hC
                omega
              have hrun:(execOp act.eval o).run P X.w = .ok (.value (.slice a (len+m) cap)) (X.w.setRow B (cF C.toList (base+off*e'+len*e') ws).toArray):=by
                rw[hroom a len cap hx hfit]
                by_cases hne:ws=[]
                · subst hne
                  rw[pW,Array.toArray_toList,od _ _ _ _ k2]
                  cases a<;>simp[storeCells]
                · rw[hsplit hne]
                  have:=jc (P:=P) B T (base+off*e'+len*e') ws 0 C X.w k2 Ll s1.oneCell
                  rw[Nat.add_zero]at this
                  have hadd:(⟨B,base+off*e',none⟩:Addr).add (len*e')=⟨B,base+off*e'+len*e',none⟩:=Addr.add_plain _ rfl _
                  simp[hadd,this]
              have hsl:(cF C.toList (base+off*e'+len*e') ws).length=C.size:=by
                rw[ep (by simp;omega)];simp
              have hup:=hR.heap.update (id:=id) (g':=g'+1) (cs':=(cs.drop (off*e')).take (len*e')++new) (B:=B) (base:=base+off*e') (w':=X.w.setRow B (cF C.toList (base+off*e'+len*e') ws).toArray)
                (C':=(cF C.toList (base+off*e'+len*e') ws).toArray) (T:=T) (vs:=(vs.drop (off*e')).take (len*e')++ws)
                Lm rfl rfl (fun i _ hne=>setRow_other _ _ _ _ hne) (setRow_heap _ _ _ _ _ _ k2) (by simpa using hR.heap.ids _ _ hcs)
                (.inl ⟨g',cs,base,C,hcs,k1,k2,by simp[hsl],by omega,fun h=>absurd h Ll⟩)
                (by
                  rw[List.length_append,q1.length,q2,s1.length]
                  simp only[List.size_toArray,hsl]
                  omega)
                (q1.append s1)
                (by
                  intro j w hj
                  simp only[List.getElem?_toArray]
                  unfold cF
                  have e1:(C.toList.take (base+off*e'+len*e')).length=base+off*e'+len*e':=by simp;omega
                  by_cases hjl:j<len*e'
                  · rw[List.getElem?_append_left Ll]at hj
                    rw[List.append_assoc,List.getElem?_append_left Ll,List.getElem?_take_of_lt Ll]
                    simpa using q3 j w hj
                  · rw[List.getElem?_append_right Ll,q2]at hj
                    have hj2:=(List.getElem?_eq_some_iff.1 hj).1
                    rw[List.append_assoc,List.getElem?_append_right Ll,e1,List.getElem?_append_left Ll]
                    rw[show base+off*e'+j-(base+off*e'+len*e')=j-len*e' by omega]
                    exact hj)
              refine⟨_,_,_,.inl hrun,rfl,rfl,hup.1,hup.2,.one (.one (.own (by simpa using hR.heap.ids _ _ hcs) hfit (fun hp=>⟨_,ha hp⟩) fun g2 cs2 hh=>?_))⟩
              simp[ad.set]at hh
              refine⟨by omega,fun _=>⟨B,base+off*e',_,T,by simp,setRow_heap _ _ _ _ _ _ k2,fun hp=>by rw[ha hp];simp,?_,?_⟩⟩
              · simp only[List.size_toArray,hsl,Nat.zero_add]
                rw[Nat.add_mul]at hC
                omega
              · simp only[List.size_toArray,hsl,Nat.zero_add]
                rw[Nat.add_mul]at hlim
                omega
            · -- a new block
              obtain⟨newCap,w1,C',e2,g1,g2,g3,g4,g5,g6,g7⟩:=sI hn hR hA hx o1 o2 (fun w' hw=>(o3 w' hw).cells) s1 s2 s3 c1 Ll
              have hl:((cs.drop (off*e')).take (len*e')++new).length=(len+m)*e':=by
                rw[List.length_append,o1.length,s1.length,o2,s2,Nat.add_mul]
              have hup:=hR.heap.update (id:=id) (g':=g'+1) (cs':=(cs.drop (off*e')).take (len*e')++new) (B:=X.w.heap.size) (base:=0) (w':=w1.alloc (.cells C' e2)) (C':=C') (T:=e2) (vs:=vold++ws)
                (by simp[g2]) g3 g4 (fun i hi _=>by rw[heap_alloc_old _ _ (by rw[g2];exact hi),g2]) (by rw[← g2];exact heap_alloc_new _ _)
                (by have:=hR.heap.ids _ _ hcs;simp[g2];omega)
                (.inr ⟨Nat.le_refl _,.inl ⟨g',cs,hcs,by omega⟩⟩)
                (by rw[hl,g6,Nat.zero_add];exact Nat.mul_le_mul_right _ g1) (o1.append s1) (fun j w hj=>by rw[Nat.zero_add];exact g7 j w hj)
              refine⟨_,_,_,.inl g5,rfl,rfl,hup.1,hup.2,.one (.one (.own (by have:=hR.heap.ids _ _ hcs;simp[g2];omega) g1 (fun _=>⟨_,rfl⟩) fun g'' cs2 hh=>?_))⟩
              simp[ad.set]at hh
              refine⟨by omega,fun _=>⟨X.w.heap.size,0,C',e2,by simp,by rw[← g2];exact heap_alloc_new _ _,fun _=>by simp,?_,?_⟩⟩
              · simp[g6]
              · simp[g6]
        | some c =>
          simp only at hv hlim
          split at hv
          · rename_i hm
            subst hm
            injection hv with hv;subst hv
            have hw0:ws=[]:=List.eq_nil_of_length_eq_zero Ll
            subst hw0
            refine⟨.slice a len cap,X.w,X,.inl ?_,rfl,rfl,.refl X,hR.heap,by rw[hxe,← hx];exact h1⟩
            rw[hroom a len cap hx Ll]
            cases a<;>simp[storeCells]
          · split at hv
            · injection hv with hv;subst hv
              exact uV hn hR hA hx o1 o2 (fun w' hw=>(o3 w' hw).cells) s1 s2 s3 c1 Ll
            · cases hv
      · cases hv
    · cases hv
  · cases hv
end
end
section
open Go
section
variable {φ:Phi} {num:FuncId→Option Nat} {P:Program} {X:Ctx} {n bs:Nat} {env:Env} {act:Act} {o:Oper} {v:AV}
theorem sA (d:Nat)(w:World){xs ys:List Value}{as bs:List AV}(hx:VCs φ X as xs)(hy:VCs φ X bs ys):∀ (fs:List Field) (i:Nat) (r:Bool),Cy P i fs=true→j8 (as.drop i) (bs.drop i)=some r→(as.drop i).length=fs.length →
  (Op.eqFields (d+1) xs.toArray ys.toArray fs).run P w = .ok r w
 | [],i,r,_,h,hl=>by
  have:as.drop i=[]:=List.eq_nil_of_length_eq_zero (by simpa using hl)
  rw[this]at h
  have hb:j8 [] (bs.drop i)=some true∨j8 [] (bs.drop i)=none:=by cases bs.drop i<;>simp[j8]
  rcases hb with hb|hb<;>rw[hb]at h
  ·injection h with h;subst h;simp[Op.eqFields]
  ·cases h
 | f::fs,i,r,hf,h,hl=>by
  simp only[Cy,Bool.and_eq_true,bne_iff_ne,decide_eq_true_eq]at hf
  obtain⟨⟨⟨h1,h2⟩,h3⟩,h4⟩:=hf
  cases ha:as.drop i with
  | nil=>rw[ha]at hl;simp at hl
  | cons a as' =>
   cases hb:bs.drop i with
   | nil=>rw[ha,hb]at h;simp[j8]at h
   | cons b bs' =>
    rw[ha,hb]at h
    have ea:as[i]?=some a:=by
     have:(as.drop i)[0]?=some a:=by rw[ha];rfl
     simpa using this
    have eb:bs[i]?=some b:=by
     have:(bs.drop i)[0]?=some b:=by rw[hb];rfl
     simpa using this
    have ea2:as.drop (i+1)=as':=by rw[← List.tail_drop,ha];rfl
    have eb2:bs.drop (i+1)=bs':=by rw[← List.tail_drop,hb];rfl
    unfold j8 at h
    split at h
    ·rename_i h0;cases h0
    ·rename_i k x xs' k' y ys' e1 e2
     cases e1
     cases e2
     split at h
     ·rename_i hk
      subst hk
      simp only[Option.map_eq_some_iff]at h
      obtain⟨r',hr',rfl⟩:=h
      obtain⟨u,hu,hu2⟩:=hx.get ea
      obtain⟨v,hv,hv2⟩:=hy.get eb
      cases hu2
      cases hv2
      split at h3
      ·rename_i q hq
       have hna:(isAgg f.type).run P w = .ok false w:=by simp[isAgg,underlying,hq]
       have hp1:(Go.part f.type xs.toArray f.offset).run P w = .ok (.int k x) w:=by simp[Go.part,hna,h2,hu]
       have hp2:(Go.part f.type ys.toArray f.offset).run P w = .ok (.int k y) w:=by simp[Go.part,hna,h2,hv]
       have ih:=sA d w hx hy fs (i+1) r' h4 (by rw[ea2,eb2];exact hr') (by rw[ea2];rw[ha]at hl;simpa using hl)
       simp only[Op.eqFields,Sem.run_bind]
       rw[if_pos h1]
       simp only[Sem.run_bind,hp1,hp2,Result.andThen_ok,run_equalIn_int w d f.type k q x y hq]
       by_cases hxy:x=y
       ·subst hxy
        simp[ih]
       ·have hne:(x == y)=false:=by simpa using hxy
        simp[hne,hxy]
      ·cases h3
     ·cases h
    ·cases h
variable (hn:∀ f k,num f=some k→φ k=some f) (hR:Rel φ n bs X env act)
include hn hR
theorem Hq {neg:Bool}{op:BinOp}{t u:TypeId}{x y:Operand}{d e:bA}{k:Nat}(ho:o.op = .binOp op t x y u)(hop:op=if neg then .neq else .eql)(hk:pp P t=some k)(hd:cd num x=some d)(he:cd num y=some e)
  (hv:a8 env (.eqS neg k d e)=some v):∃ v',(execOp act.eval o).run P X.w = .ok (.value v') X.w∧VT φ X v v':=by
 have h1:=hR.ev hn hd
 have h2:=hR.ev hn he
 simp only[a8,eqS]at hv
 unfold pp at hk
 split at hk
 ·rename_i fs ht
  split at hk
  ·rename_i hcond
   injection hk with hk;subst hk
   simp only[Bool.and_eq_true,Bool.not_eq_true']at hcond
   obtain⟨⟨c1,c2⟩,c3⟩:=hcond
   split at hv
   ·rename_i as bs ha hb
    split at hv
    ·rename_i hlen
     simp only[Option.map_eq_some_iff]at hv
     obtain⟨r,hr,rfl⟩:=hv
     rw[ha]at h1
     rw[hb]at h2
     obtain⟨xs,e1,g1⟩:=h1.agg
     obtain⟨ys,e2,g2⟩:=h2.agg
     have hfs:P.fieldsOf t=fs:=by simp[Program.fieldsOf,ht]
     have hrun:=run_equalIn_struct X.w 9999 t xs.toArray ys.toArray (by rw[hfs];exact ht) c2
     rw[hfs,sA 9998 X.w g1 g2 fs.toList 0 r c1 (by simpa using hr) (by simpa using hlen)]at hrun
     have hg:=fun op=>run_eqGuard_agg (P:=P) X.w op t x y xs.toArray ys.toArray c3
     refine⟨.bool (if neg then !r else r),?_,.one (.one (.bool _))⟩
     cases neg with
     | false =>
      simp only[Bool.false_eq_true,if_false]at hop ⊢
      subst hop
      simp[execOp,ho,e1,e2,hg,run_eql_struct,hrun]
     | true =>
      simp only[if_true]at hop ⊢
      subst hop
      simp[execOp,ho,e1,e2,hg,run_neq_struct,hrun]
    ·cases hv
   ·cases hv
  ·cases hk
 ·cases hk
theorem Hr {neg:Bool}{op:BinOp}{t u:TypeId}{x y:Operand}{d:bA}{e:TypeId}{r:Res}(ho:o.op = .binOp op t x y u)(hop:op=if neg then .neq else .eql)(ht:P.underlying t=some (.slice e))(hy:yi y=true)(hd:cd num x=some d)
  (hr:dr env X.h (.eqN neg d)=some r):pP φ P X o act r:=by
 have h1:=hR.ev hn hd
 have hyv:act.eval y = .slice none 0 0:=by
  unfold yi at hy
  split at hy
  ·rfl
  ·cases hy
 have hrun:∀ a m c,act.eval x = .slice a m c→(execOp act.eval o).run P X.w = .ok (.value (.bool (if neg then !a.isNone else a.isNone))) X.w:=fun a m c hx=>by
  have hin:=Lib.run_equalIn_slice_nil (P:=P) X.w 9999 t e a m c 0 0 ht
  cases neg with
  | false =>
   simp only[Bool.false_eq_true,if_false]at hop ⊢
   subst hop
   simp[execOp,ho,hx,hyv,eqGuard,Go.binOp,Op.equal,Op.maxDepth,hin]
  | true =>
   simp only[if_true]at hop ⊢
   subst hop
   simp[execOp,ho,hx,hyv,eqGuard,Go.binOp,Op.equal,Op.maxDepth,hin]
 simp only[dr]at hr
 split at hr
 ·rename_i m cs full he
  rw[he]at h1
  have h2:=h1.vc rfl
  generalize hx:act.eval x=z at h2
  cases h2 with
  | rd hro hc hnc hf =>
   rename_i a cap vs
   split at hr
   ·injection hr with hr;subst hr
    exact⟨_,_,hrun _ _ _ hx,.one (.one (.bool _))⟩
   ·rename_i h0
    injection hr with hr;subst hr
    obtain⟨a0,rfl,_⟩:=hro (.inl h0)
    refine⟨_,X.w,X,.inl (hrun _ _ _ hx),rfl,rfl,.refl X,hR.heap,?_⟩
    cases neg<;>exact .one (.one (.bool _))
 ·rename_i id g es off len lim he
  rw[he]at h1
  have h2:=h1.vc rfl
  generalize hx:act.eval x=z at h2
  cases h2 with
  | own hid hl ha hg =>
   rename_i a cap
   split at hr
   ·injection hr with hr;subst hr
    exact⟨_,_,hrun _ _ _ hx,.one (.one (.bool _))⟩
   ·rename_i h0
    injection hr with hr;subst hr
    obtain⟨a0,rfl⟩:=ha Ll
    refine⟨_,X.w,X,.inl (hrun _ _ _ hx),rfl,rfl,.refl X,hR.heap,?_⟩
    cases neg<;>exact .one (.one (.bool _))
 ·cases hr
theorem uU {f:Value→ByteArray→Sem (ForInStep ByteArray)}(hf:∀ (n:Int) r,f (.int .u8 n) r=pure (ForInStep.yield (r.push (UInt8.ofNat n.toNat)))):∀ {cs:List AV} {l:List UInt8},mE cs=some l→∀ {vs:List Value},VCs φ X cs vs→∀ (s:ByteArray),(forIn vs s f).run P X.w = .ok ⟨(s.data.toList++l).toArray⟩ X.w
 | [],l,h,vs,hv,s=>by
  cases hv
  simp[mE]at h
  subst h
  simp
 | c::cs,l,h,vs,hv,s=>by
  cases hv with
  | cons h1 h2 =>
   unfold mE at h
   split at h
   ·rename_i h0;cases h0
   ·rename_i m r e
    cases e
    simp only[Option.map_eq_some_iff]at h
    obtain⟨l',hl',rfl⟩:=h
    cases h1
    have ih:=uU hf hl' h2 (s.push (UInt8.ofNat m.toNat))
    simp only[List.forIn_cons,Sem.run_bind,hf,Sem.run_pure,Result.andThen_ok]
    rw[ih]
    congr 2
    simp[ByteArray.push]
   ·cases h
theorem F2 {src dst e:TypeId}{x:Operand}{d:bA}(ho:o.op = .convert src dst x)(hs:P.underlying src=some (.slice e))(he:P.underlying e=some (.int .u8))(hdst:P.underlying dst=some .string)(hd:cd num x=some d)
  (hv:bg env X.h (.strOf d)=some v):∃ v',(execOp act.eval o).run P X.w = .ok (.value v') X.w∧VT φ X v v':=by
 have h1:=hR.ev hn hd
 simp only[bg]at hv
 split at hv
 ·cases hv
 rename_i hna
 have hna:∀ s,ev env d = .str s→False:=fun s h=>hna (by rw[h];rfl)
 simp only[Option.bind_eq_some_iff,Option.map_eq_some_iff]at hv
 obtain⟨⟨m,cs⟩,hsrc,l,hl,rfl⟩:=hv
 have hcell:(ev env d).oneCell=true:=by
  generalize ev env d=a at hsrc
  cases a<;>simp[bB]at hsrc<;>rfl
 have hvc:=h1.vc hcell
 obtain⟨ws,s1,s2,s3⟩:=xG (P:=P) hR.heap hvc hsrc
 refine⟨.string ⟨l.toArray⟩,?_,.one (.one (.str _))⟩
 have hsl:∃ a cap,act.eval x = .slice a m cap:=by
  have h3:=(s3 X.w rfl).len
  generalize hde:ev env d=b at hsrc hvc hcell hna
  generalize hx:act.eval x=y at hvc h3
  cases hvc with
  | rd _ _ _ _=>simp[Builtin.lenOf]at h3;subst h3;exact⟨_,_,rfl⟩
  | own _ _ _ _=>simp[Builtin.lenOf]at h3;subst h3;exact⟨_,_,rfl⟩
  | str s=>exact absurd rfl (fun h=>hna s h)
  | _=>simp[bB]at hsrc
 obtain⟨a,cap,hx⟩:=hsl
 have hc:=(s3 X.w rfl).cells
 rw[hx]at hc
 cases a with
 | none =>
  simp only[Builtin.firstCells,Sem.run_pure,Result.ok.injEq,and_true]at hc
  have hw0:ws=[]:=by simpa using congrArg Array.toList hc.symm
  subst hw0
  cases s1
  simp[mE]at hl
  subst hl
  simp[execOp,ho,hx,convert,underlying,hs,he,hdst,Conv.bytesToString]
  rfl
 | some a =>
  simp only[Builtin.firstCells,Nat.mul_one]at hc
  simp only[execOp,ho,hx,convert,Sem.run_bind,run_underlying hs,run_underlying he,run_underlying hdst,Result.andThen_ok,Conv.bytesToString,hc]
  simp only[List.forIn_toArray]
  rw[uU hn hR (fun n r=>rfl) hl s1 ByteArray.empty]
  simp only[show ByteArray.empty.data.toList=[] from rfl,List.nil_append,Sem.run_bind,Result.andThen_ok,Sem.run_pure]
theorem BS {src dst e:TypeId}{x:Operand}{d:bA}(ho:o.op = .convert src dst x)(hs:P.underlying src=some .string)(hdst:P.underlying dst=some (.slice e))(he:P.underlying e=some (.int .u8))(hd:cd num x=some d)
  (hv:a8 env (.bytesOf d)=some v):CR φ P X o act v X.h:=by
 have h1:=hR.ev hn hd
 simp only[a8]at hv
 split at hv
 ·rename_i s hse
  injection hv with hv;subst hv
  rw[hse]at h1
  have hx:=h1.str
  obtain⟨hle,hok⟩:=hR.heap.grow (w':=Lib.bytesWorld X.w e ⟨s.toArray⟩) (by rw[Lib.bytesWorld_size];omega) (fun B hB=>Lib.bytesWorld_at_old _ _ _ _ hB) rfl rfl
  refine⟨.slice (some ⟨X.w.heap.size,0,none⟩) s.length (grownCap X.w s.length 0 e),_,{ X with w:=Lib.bytesWorld X.w e ⟨s.toArray⟩ },.inl ?_,rfl,rfl,hle,hok,?_⟩
  ·have:=Lib.run_convert_string_bytes (P:=P) X.w src dst e ⟨s.toArray⟩ hs hdst he
   simp[execOp,ho,hx,this,ByteArray.size]
  ·refine .one (.one (.rd (vs:=s.map fun b => .int .u8 b.toNat) (fun _=>⟨_,rfl,rfl,by rw[Lib.bytesWorld_size];simp,?_,?_⟩) ?_ ?_ (fun h=>by cases h)))
   ·rintro(h|⟨id,base,h⟩)
    ·exact absurd (hR.heap.mine _ h) (Nat.lt_irrefl _)
    ·exact absurd (hR.heap.dom _ _ _ h).1 (Nat.lt_irrefl _)
   ·intro j v hj
    have hj2:=(List.getElem?_eq_some_iff.1 hj).1
    simp only[List.length_map]at hj2
    have:=Lib.bytesWorld_cell X.w e ⟨s.toArray⟩ j (by simpa[ByteArray.size] using hj2)
    simp only[Nat.zero_add]
    rw[this]
    simp only[List.getElem?_map,Option.map_eq_some_iff]at hj
    obtain⟨b,hb,rfl⟩:=hj
    simp[List.getD,hb]
   ·generalize (Lib.bytesWorld X.w e ⟨s.toArray⟩)=ww
    clear hR hse h1 hx hle hok
    induction s with
    | nil=>exact .nil
    | cons b s ih=>exact .cons (.int _ _) ih
   ·simp[grownCap,Question.cut]
 ·cases hv
theorem wH {id g e off len:Nat}{lim:Option Nat}{k:Nat}{a:Option Addr}{cap:Nat}{cs as':List AV}{vs':List Value}(hid:X.h.get id=some (.cells g cs))(hv:VC φ X (.own id g e off len lim) (.slice a len cap))(hl:(off+len)*e≤cs.length)(hk:k≤len)
  (ha:VCs φ X as' vs') (hlen:as'.length=k*e) :
  ∃ X',(match a with
   | some a=>storeCells a vs'
   | none=>pure ()).run P X.w = .ok () X'.w∧X'.h=X.h.set id (.cells g (cs.take (off*e)++as'++cs.drop ((off+k)*e)))∧Le X X'∧bE φ X':=by
 obtain⟨a',cap',B,base,C,T,vs,hx,hlc,haa,hC,hlim,k1,k2,k3,k4,k5⟩:=VC.of_own hR.heap hv hid
 injection hx with hx1 _ hx2
 subst hx1 hx2
 have hl2:=ha.length
 have hl4:=k4.length
 have hkl:(off+k)*e≤(off+len)*e:=Nat.mul_le_mul_right _ Ll
 have hke:(off+k)*e=off*e+k*e:=Nat.add_mul ..
 have hup:=hR.heap.update (id:=id) (g':=g) (cs':=cs.take (off*e)++as'++cs.drop ((off+k)*e)) (B:=B) (base:=base) (w':=X.w.setRow B (cF C.toList (base+off*e) vs').toArray)
  (C':=(cF C.toList (base+off*e) vs').toArray) (T:=T) (vs:=cF vs (off*e) vs')
  Lm rfl rfl (fun i _ hne=>setRow_other _ _ _ _ hne) (setRow_heap _ _ _ _ _ _ k2) (by simpa using hR.heap.ids _ _ hid)
  (.inl ⟨g,cs,base,C,hid,k1,k2,by simp[ep (show base+off*e+vs'.length≤C.toList.length by simp;omega)],Nat.le_refl _,fun _=>rfl⟩)
  (by
   simp[ep (show base+off*e+vs'.length≤C.toList.length by simp;omega)]
   omega)
  (by
   unfold cF
   rw[hke,← hlen,← ha.length]
   exact((k4.take _).append ha).append (k4.drop _)) (wr hn hR k5 Ll Ll)
 refine⟨_,?_,rfl,hup.1,hup.2⟩
 by_cases hv0:vs'=[]
 ·subst hv0
  have:X.w.setRow B (cF C.toList (base+off*e) []).toArray=X.w:=by
   rw[pW]
   exact od _ _ _ _ k2
  dsimp only
  rw[this]
  cases a<;>simp[storeCells]
 ·have hpos:0<vs'.length:=List.length_pos_iff.2 hv0
  have hk0:k≠0:=by
   rintro rfl
   simp at hlen
   subst hlen
   simp at hl2
   omega
  rw[haa Ll]
  have hrun:=jc (P:=P) B T (base+off*e) vs' 0 C X.w k2 Ll ha.oneCell
  exact hrun
theorem HD {c:Call}{t e:TypeId}{x:Operand}{d:bA}{z:List AV}{r:Res}(ho:o.op = .call c)(hc:c.callee = .builtin .clear)(ha:c.args=#[x])(hat:c.argTypes=#[t])(ht:P.underlying t=some (.slice e))(hz:ml num P e=some z)(hd:cd num x=some d)
  (hr:dr env X.h (.clear z d)=some r):pP φ P X o act r:=by
 have h1:=hR.ev hn hd
 obtain⟨i,z0,hi,hz1,hz2⟩:=mQ (φ:=φ) (X:=X) hn hR hz
 simp only[dr]at hr
 split at hr
 ·rename_i id g e' off len lim hxe
  split at hr
  ·rename_i g' cs hcs
   split at hr
   ·rename_i hcond
    obtain⟨rfl,rfl,hl⟩:=hcond
    injection hr with hr;subst hr
    rw[hxe]at h1
    have hvc:=h1.vc rfl
    obtain⟨a,cap,B,base,C,T,vs,hx,_⟩:=VC.of_own hR.heap hvc hcs
    rw[hx]at hvc
    have hzl:=hz2.length
    have hzz:(Builtin.zeroCells z0.cells len).toList=(List.replicate len z0.cells.toList).flatten:=by
     by_cases h0:0<z0.cells.size
     ·exact o6 hn hR _ h0 len
     ·have h00:z0.cells=#[]:=Array.eq_empty_of_size_eq_zero Ll
      simp[Builtin.zeroCells,h00]
    obtain⟨X',w1,w2,w3,w4⟩:=wH (P:=P) hn hR (k:=len) hcs hvc hl (Nat.le_refl _) (hz2.replicate len) Lm
    refine⟨.tuple #[],_,X',.inl ?_,rfl,w2,w3,w4,.tup .nil⟩
    by_cases hl0:len=0
    ·subst hl0
     simp only[List.replicate_zero,List.flatten_nil]at w1
     have hw:X'.w=X.w:=by cases a<;>simp[storeCells]at w1<;>exact w1.symm
     rw[hw]
     cases a<;>simp[execOp,ho,resolve,hc,ha,hat,hx,invoke,builtin,Builtin.clear_,run_underlying ht]
    ·cases a with
     | none =>
      simp at w1
      exfalso
      cases hvc with
      | own _ hlc ha' _ =>
       obtain⟨a0,h⟩:=ha' Ll
       cases h
     | some a =>
      simp only at w1
      obtain⟨m,rfl⟩:∃ m,len=m+1:=⟨len-1,by omega⟩
      simp[execOp,ho,resolve,hc,ha,hat,hx,invoke,builtin,Builtin.clear_,run_underlying ht,zeroValue,typeInfo,hi,hz1]
      rw[hzz,w1]
      rfl
   ·cases hr
  ·cases hr
 ·rename_i m cs full hxe
  split at hr
  ·rename_i h0
   injection hr with hr;subst hr
   subst h0
   rw[hxe]at h1
   have h2:=h1.vc rfl
   generalize hx:act.eval x=y at h2
   cases h2 with
   | rd hro hc' hnc hf =>
    rename_i a cap vs
    refine⟨.tuple #[],X.w,X,.inl ?_,rfl,rfl,.refl X,hR.heap,.tup .nil⟩
    cases a<;>simp[execOp,ho,resolve,hc,ha,hat,hx,invoke,builtin,Builtin.clear_,run_underlying ht]
  ·cases hr
 ·cases hr
omit hR in
theorem Do (hR:bE φ X){esz m:Nat}{a:AV}{x:Value}{new:List AV}(hx:VC φ X a x)(h:bB X.h esz a=some (m,new)) :
  ∃ ws,VCs φ X new ws∧ws.length=m*esz∧(Builtin.lenOf x).run P X.w = .ok m X.w∧∀ k,k≤m→(Builtin.firstCells esz k x).run P X.w = .ok (ws.take (k*esz)).toArray X.w:=by
 have htl:∀ (ws:List Value) k,k≤m→ws.length=m*esz→(ws.take (k*esz)).length=k*esz:=fun ws k hk hl=>by
  rw[List.length_take,hl]
  exact Nat.min_eq_left (Nat.mul_le_mul_right _ hk)
 have htk:∀ (ws:List Value) (k j:Nat) (v:Value),(ws.take k)[j]?=some v→ws[j]?=some v:=fun ws k j v h=>by
  have:=(List.getElem?_eq_some_iff.1 h).1
  simp at this
  rwa [List.getElem?_take_of_lt Ll]at h
 unfold bB at h
 split at h
 ·rename_i q cs full
  split at h
  ·rename_i hl
   injection h with h
   injection h with h1 h2
   subst h1 h2
   cases hx with
   | rd hr hc hnc hf =>
    rename_i a cap vs
    have hlen:=hc.length
    have hvl:vs.length=q*esz:=by omega
    refine⟨vs,hc,hvl,by simp[Builtin.lenOf],fun k hk=>?_⟩
    by_cases hq:q≠0∨vs≠[]
    ·obtain⟨a0,rfl,r1,r2,r3,r4⟩:=hr hq
     exact kh (htl vs k hk hvl) r1 fun j v hj=>r4 j v (htk _ _ _ _ hj)
    ·have hk0:q=0:=Decidable.byContradiction fun h=>hq (.inl h)
     have hv0:vs=[]:=Decidable.byContradiction fun h=>hq (.inr h)
     subst hk0 hv0
     obtain rfl:k=0:=by omega
     cases a<;>simp[Builtin.firstCells,loadCells,loadCellsFrom]
  ·cases h
 ·rename_i id g e off len lim
  split at h
  ·rename_i g' cs hcs
   split at h
   ·rename_i hl
    obtain⟨rfl,rfl,hl⟩:=hl
    injection h with h
    injection h with h1 h2
    subst h1 h2
    obtain⟨a,cap,B,base,C,T,vs,rfl,hlc,ha,hC,hlim,k1,k2,k3,k4,k5⟩:=VC.of_own hR hx hcs
    obtain⟨q1,q2,q3⟩:=lO k4 k5 hl
    refine⟨_,q1,q2,by simp[Builtin.lenOf],fun k hk=>?_⟩
    by_cases h0:cap=0
    ·obtain rfl:len=0:=by omega
     obtain rfl:k=0:=by omega
     cases a<;>simp[Builtin.firstCells,loadCells,loadCellsFrom]
    ·rw[ha Ll]
     refine kh (htl _ k hk q2) rfl fun j v hj=>?_
     rw[oN k2]
     exact q3 j v (htk _ _ _ _ hj)
   ·cases h
  ·cases h
 ·rename_i s
  split at h
  ·rename_i he
   subst he
   injection h with h
   injection h with h1 h2
   subst h1 h2
   cases hx
   refine⟨s.map fun b => .int .u8 b.toNat,?_,by simp,by simp[Builtin.lenOf,ByteArray.size],fun k hk=>?_⟩
   ·clear hR htl
    induction s with
    | nil=>exact .nil
    | cons b s ih=>exact .cons (.int _ _) ih
   ·have hex:(⟨s.toArray⟩:ByteArray).extract 0 k=⟨(s.take k).toArray⟩:=by
     apply ByteArray.ext
     rw[ByteArray.data_extract]
     apply Array.toList_inj.1
     simp[List.extract_eq_take_drop]
    simp[Builtin.firstCells,hex]
  ·cases h
 ·cases h
theorem I0 {c:Call}{t u e:TypeId}{sz:Nat}{x y:Operand}{d d':bA}{r:Res}(ho:o.op = .call c)(hc:c.callee = .builtin .copy)(ha:c.args=#[x,y])(hat:c.argTypes=#[t,u])(ht:P.underlying t=some (.slice e))(hs:szT P e=some sz)(hd:cd num x=some d)(hd':cd num y=some d')
  (hr:dr env X.h (.copy sz d d')=some r):pP φ P X o act r:=by
 have h1:=hR.ev hn hd
 have h2:=hR.ev hn hd'
 simp only[szT,Option.map_eq_some_iff]at hs
 obtain⟨info,hi,hsz⟩:=hs
 simp only[dr,Option.bind_eq_some_iff]at hr
 obtain⟨⟨m,new⟩,hsrc,hr⟩:=hr
 have hcell:(ev env d').oneCell=true:=by
  generalize ev env d'=a at hsrc
  cases a<;>simp[bB]at hsrc<;>rfl
 obtain⟨ws,s1,s2,hlen,hfst⟩:=Do (P:=P) hn hR.heap (h2.vc hcell) hsrc
 have hnl:new.length=m*sz:=s1.length.trans s2
 split at hr
 ·rename_i id g e' off len lim hxe
  split at hr
  ·rename_i g' cs hcs
   split at hr
   ·rename_i hcond
    obtain⟨rfl,rfl,hl⟩:=hcond
    injection hr with hr;subst hr
    rw[hxe]at h1
    have hvc:=h1.vc rfl
    obtain⟨a,cap,B,base,C,T,vs,hx,_⟩:=VC.of_own hR.heap hvc hcs
    rw[hx]at hvc
    obtain⟨X',w1,w2,w3,w4⟩:=wH (P:=P) hn hR (k:=min m len) hcs hvc hl Ll (s1.take (min m len*e')) (by
     rw[List.length_take,hnl]
     exact Nat.min_eq_left (Nat.mul_le_mul_right _ Ll))
    refine⟨.int .i64 (min m len:Nat),_,X',.inl ?_,rfl,w2,w3,w4,.one (.one (.int _ _))⟩
    have hf:=hfst (min m len) Ll
    cases a with
    | none =>
     simp only at w1
     simp[execOp,ho,resolve,hc,ha,hat,hx,invoke,builtin,Builtin.copy_,run_underlying ht,sizeOf,typeInfo,hi,hsz,hlen,hf,goInt]
     simpa using w1
    | some a =>
     simp only at w1
     simp[execOp,ho,resolve,hc,ha,hat,hx,invoke,builtin,Builtin.copy_,run_underlying ht,sizeOf,typeInfo,hi,hsz,hlen,hf,w1,goInt]
   ·cases hr
  ·cases hr
 ·rename_i k cs full hxe
  split at hr
  ·rename_i h0
   injection hr with hr;subst hr
   subst h0
   rw[hxe]at h1
   have h2:=h1.vc rfl
   generalize hx:act.eval x=yv at h2
   cases h2 with
   | rd hro hc' hnc hf =>
    rename_i a cap vs
    have hf:=hfst 0 Ll
    refine⟨.int .i64 0,X.w,X,.inl ?_,rfl,rfl,.refl X,hR.heap,.one (.one (.int _ _))⟩
    cases a<;>simp[execOp,ho,resolve,hc,ha,hat,hx,invoke,builtin,Builtin.copy_,run_underlying ht,sizeOf,typeInfo,hi,hsz,hlen,hf,goInt,storeCells]
  ·cases hr
 ·cases hr
def qV:Option IntKind→TypeDesc
 | some q => .int q
 | none => .string
omit hn hR in
theorem uH {kk:Option IntKind}{dk:TypeDesc}(hdk:dk=qV kk):∀ {es:List (AV×AV)} {fs:List MapEntry},mj φ X kk es fs→∀ x∈fs,MapKept.IsKey dk x.key
 | _,_,.nil,_,h=>by cases h
 | _,_,.cons (e:=e) h1 h2 h3 h4,x,h=>by
  rcases List.mem_cons.1 h with rfl|h
  ·generalize x.key=ek at h1
   subst hdk
   cases kk with
   | some q=>cases h1<;>simp[kc]at h2;subst h2;rfl
   | none=>cases h1<;>simp[kc]at h2;trivial
  ·exact uH hdk h4 x h
omit hn hR in
theorem rT {kk:Option IntKind}{dk:TypeDesc}(hdk:dk=qV kk){k:AV}{kv:Value}(hk:kc kk k=true)(hkv:VC φ X k kv):∀ {es:List (AV×AV)} {fs:List MapEntry},mj φ X kk es fs→∀ i:Nat,
  (Instr.findNow dk kv fs i=some none∧iN es k=none∧∀ v,mf es k v=es++[(k,v)]) ∨
  ∃ j e x,Instr.findNow dk kv fs i=some (some (i+j,e.val))∧fs[j]?=some e∧e.key=kv∧VR φ X x e.val∧iN es k=some x ∧
   ∀ v w,VR φ X v w→mj φ X kk (mf es k v) (fs.modify j fun e=>{ e with key:=kv,val:=w })
 | _,_,.nil,i => .inl ⟨rfl,rfl,fun _=>rfl⟩
 | _,_,.cons (k:=k') (x:=x) (e:=e) (es:=es) (fs:=fs) h1 h2 h3 h4,i=>by
  have hsame:∃ r,Instr.sameNow dk kv e.key=some r∧(r=true↔k'=k)∧(k'=k→e.key=kv):=by
   generalize e.key=ek at h1
   cases kk with
   | some q =>
    simp only[qV]at hdk
    subst hdk
    cases hkv<;>simp[kc]at hk
    cases h1<;>simp[kc]at h2
    subst hk h2
    refine⟨_,by simp[Instr.sameNow];rfl,?_,?_⟩
    ·simp
     exact eq_comm
    ·rintro h;cases h;rfl
   | none =>
    simp only[qV]at hdk
    subst hdk
    cases hkv<;>simp[kc]at hk
    cases h1<;>simp[kc]at h2
    rename_i s s'
    refine⟨_,rfl,?_,?_⟩
    ·rw[MapKept.bytes_beq]
     simp
     exact eq_comm
    ·rintro h;cases h;rfl
  obtain⟨r,hr,hiff,hkk⟩:=hsame
  cases r with
  | true =>
   have he:=hiff.1 rfl
   refine .inr ⟨0,e,x,by simp[Instr.findNow,hr],rfl,hkk he,h3,by simp[iN,he],fun v w hvw=>?_⟩
   simp only[mf,he,if_true,List.modify_zero_cons]
   exact .cons hkv hk hvw h4
  | false =>
   have hne:¬ k'=k:=fun h=>by have:=hiff.2 h;cases this
   rcases rT hdk hk hkv h4 (i+1) with⟨g1,g2,g3⟩|⟨j,e',x',g1,g2,g3,g4,g5,g6⟩
   ·exact .inl ⟨by simp[Instr.findNow,hr,g1],by simp[iN,hne,g2],fun v=>by simp[mf,hne,g3]⟩
   ·refine .inr ⟨j+1,e',x',by simp[Instr.findNow,hr,g1];omega,by simpa using g2,g3,g4,by simp[iN,hne,g5],fun v w hvw=>?_⟩
    simp only[mf,hne,if_false,List.modify_succ_cons]
    exact .cons h1 h2 h3 (g6 v w hvw)
omit hn hR in
theorem wQ {kk:Option IntKind}{dk:TypeDesc}(hdk:dk=qV kk){k:AV}{kv:Value}(hk:kc kk k=true)(hkv:VC φ X k kv):MapKept.IsKey dk kv:=by
 cases kk with
 | some q =>
  simp only[qV]at hdk
  subst hdk
  cases hkv<;>simp[kc]at hk
  subst hk
  simp[MapKept.IsKey]
 | none =>
  simp only[qV]at hdk
  subst hdk
  cases hkv<;>simp[kc]at hk
  simp[MapKept.IsKey]
omit hn hR in
theorem ut {kt:TypeId}{kk:Option IntKind}(h:nH P kt=some kk):P.underlying kt=some (qV kk):=by
 unfold nH at h
 split at h
 ·injection h with h;subst h;assumption
 ·injection h with h;subst h;assumption
 ·cases h
omit hn hR in
theorem uw {kk:Option IntKind}{k:AV}(h:kc kk k=true):k.oneCell=true:=by
 cases kk<;>cases k<;>simp[kc]at h<;>rfl
theorem Fh {t kt e:TypeId}{kk:Option IntKind}{z0:Value}{z:AV}{ok:Bool}{x k:Operand}{d d':bA}(ho:o.op = .lookup t x k ok)(ht:P.underlying t=some (.map kt e))(hkk:nH P kt=some kk)
  (hz:(P.info? e).bind (·.zero)=some z0) (hz0:HM num z0=some z) (hd:cd num x=some d) (hd':cd num k=some d')
  (hv:bg env X.h (.lookup kk z ok d d')=some v):∃ v',(execOp act.eval o).run P X.w = .ok (.value v') X.w∧VT φ X v v':=by
 have h1:=hR.ev hn hd
 have h2:=hR.ev hn hd'
 have hku:=ut hkk
 simp only[bg]at hv
 split at hv
 ·rename_i hk
  have hkv:=h2.vc (uw hk)
  have hik:=wQ rfl hk hkv
  simp only[Option.bind_eq_some_iff]at hz
  obtain⟨i,hi,hz⟩:=hz
  have hzr:=CF (φ:=φ) (X:=X) hn hz0
  split at hv
  ·rename_i id hid
   rw[hid]at h1
   split at hv
   ·rename_i kk' es hes
    split at hv
    ·rename_i hkq
     subst hkq
     injection hv with hv;subst hv
     have hvc:=h1.vc rfl
     generalize hx:act.eval x=xv at hvc
     cases hvc with
     | map hlt hm =>
      obtain⟨B,ents,clock,k1,k2,k3⟩:=hR.heap.maps _ _ _ hes
      have:=hm _ _ hes
      rw[k1]at this
      injection this with this
      injection this with this _
      subst this
      rcases rT rfl hk hkv k3.e 0 with⟨g1,g2,g3⟩|⟨j,e',x',g1,g2,g3,g4,g5,g6⟩
      ·cases ok with
       | true =>
        refine⟨.tuple #[z0,.bool false],?_,?_⟩
        ·simp[execOp,ho,hx,Instr.lookup,run_underlying ht,MapKept.run_getObj_map k2,MapKept.run_checkKey hku hik,MapKept.run_findKey hku g1,zeroValue,typeInfo,hi,hz]
        ·rw[g2];exact .tup (.cons hzr (.cons (.one (.bool _)) .nil))
       | false =>
        refine⟨z0,?_,?_⟩
        ·simp[execOp,ho,hx,Instr.lookup,run_underlying ht,MapKept.run_getObj_map k2,MapKept.run_checkKey hku hik,MapKept.run_findKey hku g1,zeroValue,typeInfo,hi,hz]
        ·rw[g2];exact .one hzr
      ·cases ok with
       | true =>
        refine⟨.tuple #[e'.val,.bool true],?_,?_⟩
        ·simp[execOp,ho,hx,Instr.lookup,run_underlying ht,MapKept.run_getObj_map k2,MapKept.run_checkKey hku hik,MapKept.run_findKey hku g1]
        ·rw[g5];exact .tup (.cons g4 (.cons (.one (.bool _)) .nil))
       | false =>
        refine⟨e'.val,?_,?_⟩
        ·simp[execOp,ho,hx,Instr.lookup,run_underlying ht,MapKept.run_getObj_map k2,MapKept.run_checkKey hku hik,MapKept.run_findKey hku g1]
        ·rw[g5];exact .one g4
    ·cases hv
   ·cases hv
  ·rename_i hid
   rw[hid]at h1
   have hvc:=h1.vc rfl
   injection hv with hv;subst hv
   generalize hx:act.eval x=xv at hvc
   cases hvc
   have g1:Instr.findNow (qV kk) (act.eval k) [] 0=some none:=rfl
   cases ok with
   | true =>
    refine⟨.tuple #[z0,.bool false],?_,.tup (.cons hzr (.cons (.one (.bool _)) .nil))⟩
    simp[execOp,ho,hx,Instr.lookup,run_underlying ht,MapKept.run_checkKey hku hik,MapKept.run_findKey hku g1,zeroValue,typeInfo,hi,hz]
   | false =>
    refine⟨z0,?_,.one hzr⟩
    simp[execOp,ho,hx,Instr.lookup,run_underlying ht,MapKept.run_checkKey hku hik,MapKept.run_findKey hku g1,zeroValue,typeInfo,hi,hz]
  ·cases hv
 ·cases hv
theorem mj.append {kk:Option IntKind}:∀ {es:List (AV×AV)} {fs:List MapEntry},mj φ X kk es fs→∀ {k v:AV} {e:MapEntry},VC φ X k e.key→kc kk k=true→VR φ X v e.val→mj φ X kk (es++[(k,v)]) (fs++[e])
 | _,_,.nil,_,_,_,h1,h2,h3 => .cons h1 h2 h3 .nil
 | _,_,.cons a b c d,_,_,_,h1,h2,h3 => .cons a b c (mj.append d h1 h2 h3)
theorem v6 {t kt e:TypeId}{kk:Option IntKind}{m k x:Operand}{d d' d2:bA}{r:Res}(ho:o.op = .mapUpdate t m k x∨o.op = .insert t m k x)(ht:P.underlying t=some (.map kt e))(hkk:nH P kt=some kk)
    (hd:cd num m=some d) (hd':cd num k=some d') (hd2:cd num x=some d2) (hr:dr env X.h (.update kk d d' d2)=some r):pP φ P X o act r:=by
  have h1:=hR.ev hn hd
  have h2:=hR.ev hn hd'
  have h3:=hR.ev hn hd2
  have hku:=ut hkk
  simp only[dr]at hr
  split at hr
  · rename_i hk
    obtain⟨hk,hval⟩:=hk
    have hkv:=h2.vc (uw hk)
    have hik:=wQ rfl hk hkv
    have hxr:VR φ X (ev env d2) (act.eval x):=by
      generalize ev env d2=a at h3 hval
      generalize act.eval x=y at h3
      cases h3 with
      | one h=>exact h
      | tup h=>simp[AV.isVal]at hval
    split at hr
    · rename_i id hid
      rw[hid]at h1
      split at hr
      · rename_i kk' es hes
        split at hr
        · rename_i hkq
          subst hkq
          injection hr with hr;subst hr
          have hvc:=h1.vc rfl
          generalize hx:act.eval m=xv at hvc
          cases hvc with
          | map hlt hm =>
            obtain⟨B,ents,clock,k1,k2,k3⟩:=hR.heap.maps _ _ _ hes
            have:=hm _ _ hes
            rw[k1]at this
            injection this with this
            injection this with this _
            subst this
            have fin:∀ (ents':Array MapEntry) (clock':Nat),rt φ X kk' (mf es (ev env d') (ev env d2)) ents' clock'→(Instr.mapUpdate t (.map (some B)) (act.eval k) (act.eval x)).run P X.w = .ok () { X.w with heap:=X.w.heap.setIfInBounds B (.map ents' clock') } →
                pP φ P X o act (.val .undef (X.h.set id (.map kk' (mf es (ev env d') (ev env d2))))):=fun ents' clock' he hrun=>by
              have hup:=hR.heap.updateMap (id:=id) (kk:=kk') (es':=mf es (ev env d') (ev env d2)) (B:=B) (w':={ X.w with heap:=X.w.heap.setIfInBounds B (.map ents' clock') }) (ents:=ents') (clock:=clock')
                Lm rfl rfl (fun i _ hne=>(MapKept.heap_set k2).2 i hne) (MapKept.heap_set k2).1 (by simpa using hR.heap.ids _ _ hes) (.inl ⟨es,ents,clock,hes,k1,k2⟩) he
              refine⟨undef,_,_,.inr ⟨?_,rfl⟩,rfl,rfl,hup.1,hup.2,.one (.undef _)⟩
              rcases ho with ho|ho<;>simp[execOp,ho,hx,hrun]
            rcases rT rfl hk hkv k3.e 0 with⟨g1,g2,g3⟩|⟨j,e',x',g1,g2,g3,g4,g5,g6⟩
            · refine fin (ents.push ⟨act.eval k,act.eval x,clock⟩) (clock+1) ?_ ?_
              · refine⟨?_,MapKept.stamped_push k3.s ?_⟩
                · rw[g3,Array.toList_push]
                  exact mj.append hn hR k3.e hkv hk hxr
                · rcases MapKept.findNow_spec hik ents.toList 0 (uH rfl k3.e) with⟨_,h2⟩|⟨_,_,h1,_⟩
                  · exact h2
                  · rw[g1]at h1;cases h1
              · simp[Instr.mapUpdate,run_underlying ht,MapKept.run_getObj_map k2,MapKept.run_checkKey hku hik,MapKept.run_findKey hku g1,MapKept.run_setObj_map _ k2]
            · have hj:ents[j]?=some e':=by simpa using g2
              refine fin (ents.modify j fun e=>{ e with key:=act.eval k,val:=act.eval x }) clock ?_ ?_
              · refine⟨?_,MapKept.stamped_modify k3.s _ _ (fun _ _=>rfl) (fun e1 _ he1=>?_)⟩
                · rw[Array.toList_modify]
                  exact g6 _ _ hxr
                · rw[hj]at he1
                  injection he1 with he1
                  subst he1
                  exact g3.symm
              · simp[Instr.mapUpdate,run_underlying ht,MapKept.run_getObj_map k2,MapKept.run_checkKey hku hik,MapKept.run_findKey hku g1,hj,g3,MapKept.run_keyThatStays hik,MapKept.run_setObj_map _ k2]
        · cases hr
      · cases hr
    · cases hr
  · cases hr
end
end
end Go.Proofs.YtlnobeojgifojaaGreatDoor
