/- Every operation but calls. -/
import Derived.Test.YtlnobeojgifojaaGreatDoorA4
import Derived.Orders
import Derived.OrdersIn
import Derived.RangeFuncIn
import Derived.RangeFuncLeaves
import Derived.RangeFuncCalls
import Derived.Test.YtlnobeojgifojaaGreatDoorA1
import Derived.Test.YtlnobeojgifojaaGreatDoorA3
set_option linter.unusedSimpArgs false
set_option linter.unusedVariables false
set_option linter.unusedSectionVars false
namespace Go.Proofs.YtlnobeojgifojaaGreatDoor
section
open Go
section
variable {φ:Phi} {num:FuncId→Option Nat} {P:Program} {X:Ctx} {n bs:Nat} {env:Env} {act:Act} {o:Oper} {v:AV}
variable (hn:∀ f k,num f=some k→φ k=some f) (hR:Rel φ n bs X env act)
include hn hR
theorem iO.eff (h:iO φ P X o act v):CR φ P X o act v X.h:=by
 obtain⟨v',h1,h2⟩:=h
 exact⟨v',X.w,X,.inl h1,rfl,rfl,.refl X,hR.heap,h2⟩
theorem ic {d:DOp}{r:Res}(hk:d.kind = .pure)(hr:fo env X.h d=some r)(hv:∀ v,a8 env d=some v→iO φ P X o act v):pP φ P X o act r:=by
 unfold fo at hr
 rw[hk]at hr
 simp only[Option.map_eq_some_iff]at hr
 obtain⟨v,h1,rfl⟩:=hr
 exact(hv v h1).eff hn hR
theorem t6 {d:DOp}{r:Res}(hk:d.kind = .read)(hr:fo env X.h d=some r)(hv:∀ v,bg env X.h d=some v→iO φ P X o act v):pP φ P X o act r:=by
 unfold fo at hr
 rw[hk]at hr
 simp only[Option.map_eq_some_iff]at hr
 obtain⟨v,h1,rfl⟩:=hr
 exact(hv v h1).eff hn hR
theorem IB {d:DOp}{r:Res}(hk:d.kind = .new)(hr:fo env X.h d=some r)(hv:∀ ob f,gT env d=some (ob,f)→uZ φ P X o act ob f):pP φ P X o act r:=by
 unfold fo at hr
 rw[hk]at hr
 simp only[Option.map_eq_some_iff]at hr
 obtain⟨⟨ob,f⟩,h1,rfl⟩:=hr
 exact hv ob f h1
theorem KG {bx:Bool}{po:Nat}{d:DOp}{r:Res}(hc:cOp num P bx po o.op=some d)(hr:fo env X.h d=some r):pP φ P X o act r:=by
 cases hop:o.op<;>rw[hop]at hc<;>simp only[cOp]at hc
 case move x =>
  simp only[Option.map_eq_some_iff]at hc
  obtain⟨d,hd,rfl⟩:=hc
  exact ic hn hR rfl hr fun v hv=>by injection hv with hv;subst hv;exact Jj hn hR (.inl hop) hd
 case assign x =>
  simp only[Option.map_eq_some_iff]at hc
  obtain⟨d,hd,rfl⟩:=hc
  exact ic hn hR rfl hr fun v hv=>by injection hv with hv;subst hv;exact Jj hn hR (.inr hop) hd
 case pick c a b =>
  simp only[Option.bind_eq_some_iff,Option.map_eq_some_iff]at hc
  obtain⟨c',h1,a',h2,b',h3,rfl⟩:=hc
  exact ic hn hR rfl hr fun v hv=>Iv hn hR hop h1 h2 h3 hv
 case alloc t =>
  simp only[Option.map_eq_some_iff]at hc
  obtain⟨zs,hz,rfl⟩:=hc
  refine IB hn hR rfl hr fun ob f hv=>?_
  simp only[gT,Option.some.injEq,Prod.mk.injEq]at hv
  obtain⟨rfl,rfl⟩:=hv
  exact HX hn hR hop hz
 case box t x =>
  simp only[Option.map_eq_some_iff]at hc
  obtain⟨d,hd,rfl⟩:=hc
  refine IB hn hR rfl hr fun ob f hv=>?_
  simp only[gT]at hv
  split at hv
  ·rename_i hval
   simp only[Option.some.injEq,Prod.mk.injEq]at hv
   obtain⟨rfl,rfl⟩:=hv
   exact J3 hn hR hop hd hval
  ·cases hv
 case build t parts =>
  simp only[Option.bind_eq_some_iff]at hc
  obtain⟨z,hz,hc⟩:=hc
  split at hc
  ·rename_i fs ht
   simp only[Option.bind_eq_some_iff,Option.map_eq_some_iff]at hc
   obtain⟨pl,hpl,ps,hps,rfl⟩:=hc
   exact ic hn hR rfl hr fun v hv=>Aq hn hR hop hz (fun i z C hi hz hf=>yA hn hR ht hpl hi hz hf) hps hv
  ·rename_i m e ht
   simp only[Option.bind_eq_some_iff,Option.map_eq_some_iff]at hc
   obtain⟨k,hk,ps,hps,rfl⟩:=hc
   exact ic hn hR rfl hr fun v hv=>Aq hn hR hop hz (fun i z C hi hz hf=>Ap hn hR ht hk hi hz hf) hps hv
  ·cases hc
 case buildSlice t len parts =>
  split at hc
  ·rename_i e ht
   simp only[Option.bind_eq_some_iff]at hc
   obtain⟨k,hk,z,hz,hc⟩:=hc
   split at hc
   ·rename_i hcond
    simp only[Option.map_eq_some_iff]at hc
    obtain⟨ps,hps,rfl⟩:=hc
    unfold fo at hr
    simp only[DOp.kind,Option.map_eq_some_iff]at hr
    obtain⟨v,h1,rfl⟩:=hr
    obtain⟨v',C,e1,e2⟩:=JQ hn hR hop ht hk hz hcond hps h1
    obtain⟨g1,g2⟩:=bE.garbage hn hR hR.heap C e
    exact⟨v',_,{ X with w:=X.w.alloc (.cells C e) },.inl e1,rfl,rfl,g1,g2,e2⟩
   ·cases hc
  ·cases hc
 case load t x =>
  simp only[Option.bind_eq_some_iff,Option.map_eq_some_iff]at hc
  obtain⟨ag,ha,sz,hs,d,hd,rfl⟩:=hc
  exact t6 hn hR rfl hr fun v hv=>II hn hR hop ha hs hd hv
 case store t x y =>
  simp only[Option.bind_eq_some_iff,Option.map_eq_some_iff]at hc
  obtain⟨sz,hs,d,hd,e,he,rfl⟩:=hc
  unfold fo at hr
  simp only[DOp.kind,dr]at hr
  split at hr
  ·rename_i id g off hx
   split at hr
   ·rename_i g' cs hcs
    split at hr
    ·rename_i hcond
     obtain⟨rfl,c1,c2,c3⟩:=hcond
     injection hr with hr;subst hr
     exact F4 hn hR hop hs hd he hx hcs c1 c2 c3
    ·cases hr
   ·cases hr
  ·cases hr
 case nilCheck x =>
  simp only[Option.map_eq_some_iff]at hc
  obtain⟨d,hd,rfl⟩:=hc
  exact ic hn hR rfl hr fun v hv=>GT hn hR hop hd hv
 case binOp op t x y u =>
  split at hc
  ·rename_i hs
   simp only[Option.bind_eq_some_iff,Option.map_eq_some_iff]at hc
   obtain⟨d,hd,e,he,rfl⟩:=hc
   exact ic hn hR rfl hr fun v hv=>HO hop (hR.ev hn hd) (hR.ev hn he) hs hv
  ·split at hc
   ·rename_i ht
    simp only[Option.bind_eq_some_iff,Option.map_eq_some_iff]at hc
    obtain⟨d,hd,e,he,rfl⟩:=hc
    exact ic hn hR rfl hr fun v hv=>Hs hop rfl (hR.ev hn hd) (hR.ev hn he) ht hv
   ·rename_i ht
    simp only[Option.bind_eq_some_iff,Option.map_eq_some_iff]at hc
    obtain⟨d,hd,e,he,rfl⟩:=hc
    exact ic hn hR rfl hr fun v hv=>Hs hop rfl (hR.ev hn hd) (hR.ev hn he) ht hv
   ·rename_i e ht
    split at hc
    ·rename_i hy
     simp only[Option.map_eq_some_iff]at hc
     obtain⟨d,hd,rfl⟩:=hc
     exact Hr hn hR hop rfl ht hy hd hr
    ·cases hc
   ·rename_i e ht
    split at hc
    ·rename_i hy
     simp only[Option.map_eq_some_iff]at hc
     obtain⟨d,hd,rfl⟩:=hc
     exact Hr hn hR hop rfl ht hy hd hr
    ·cases hc
   ·simp only[Option.bind_eq_some_iff,Option.map_eq_some_iff]at hc
    obtain⟨k,hk,d,hd,e,he,rfl⟩:=hc
    exact ic hn hR rfl hr fun v hv=>Hq hn hR hop rfl hk hd he hv
   ·simp only[Option.bind_eq_some_iff,Option.map_eq_some_iff]at hc
    obtain⟨k,hk,d,hd,e,he,rfl⟩:=hc
    exact ic hn hR rfl hr fun v hv=>Hq hn hR hop rfl hk hd he hv
   ·cases hc
 case unOp op t x =>
  simp only[Option.map_eq_some_iff]at hc
  obtain⟨d,hd,rfl⟩:=hc
  exact ic hn hR rfl hr fun v hv=>KE hn hR hop hd hv
 case convert src dst x =>
  split at hc
  ·rename_i k' k h1 h2
   simp only[Option.map_eq_some_iff]at hc
   obtain⟨d,hd,rfl⟩:=hc
   exact ic hn hR rfl hr fun v hv=>I1 hn hR hop h1 h2 hd hv
  ·rename_i e h1 h2
   split at hc
   ·rename_i he
    split at hc
    ·simp only[Option.map_eq_some_iff]at hc
     obtain⟨d,hd,rfl⟩:=hc
     exact t6 hn hR rfl hr fun v hv=>F2 hn hR hop h1 he h2 hd hv
    ·cases hc
   ·cases hc
  ·rename_i e h1 h2
   split at hc
   ·rename_i he
    simp only[Option.map_eq_some_iff]at hc
    obtain⟨d,hd,rfl⟩:=hc
    unfold fo at hr
    simp only[DOp.kind,Option.map_eq_some_iff]at hr
    obtain⟨v,hv,rfl⟩:=hr
    exact BS hn hR hop h1 h2 he hd hv
   ·cases hc
  ·rename_i h1 h2
   simp only[Option.map_eq_some_iff]at hc
   obtain⟨d,hd,rfl⟩:=hc
   refine ic hn hR rfl hr fun v hv=>?_
   have h3:=hR.ev hn hd
   simp only[a8]at hv
   split at hv
   ·rename_i s hs
    simp only[eY,Option.bind_some]at hv
    split at hv
    ·injection hv with hv;subst hv
     rw[hs]at h3
     refine⟨.string ⟨s.toArray⟩,?_,?_⟩
     ·simp[execOp,hop,h3.str,convert,run_underlying h1,run_underlying h2]
     ·have e:(s.drop (0:Int).toNat).take ((s.length:Int)-0).toNat=s:=by simp
      rw[e]
      exact .one (.one (.str s))
    ·cases hv
   ·cases hv
  ·cases hc
 case makeFunc fn first captured =>
  cases fn<;>simp only[cOp]at hc<;>try (cases hc;done)
  rename_i f
  split at hc
  ·rename_i h0
   simp only[Option.bind_eq_some_iff,Option.map_eq_some_iff]at hc
   obtain⟨k,hk,ds,hds,rfl⟩:=hc
   exact ic hn hR rfl hr fun v hv=>IF hn hR hop h0 hk hds hv
  ·cases hc
 case makeMap t r =>
  cases r with
  | none =>
   simp only[cOp]at hc
   split at hc
   ·simp only[Option.map_eq_some_iff]at hc
    obtain⟨kk,_,rfl⟩:=hc
    refine IB hn hR rfl hr fun ob f hv=>?_
    simp only[gT,Option.some.injEq,Prod.mk.injEq]at hv
    obtain⟨rfl,rfl⟩:=hv
    exact GV hn hR hop
   ·cases hc
  | some _=>cases hc
 case makeSlice t l c =>
  split at hc
  ·rename_i e ht
   simp only[Option.bind_eq_some_iff]at hc
   obtain⟨z,hz,hc⟩:=hc
   split at hc
   ·rename_i hcond
    simp only[Option.bind_eq_some_iff,Option.map_eq_some_iff]at hc
    obtain⟨dl,hl,dc,hdc,rfl⟩:=hc
    exact IB hn hR rfl hr fun ob f hv=>Bf hn hR hop ht hz hcond.1 hcond.2.1 hcond.2.2 hl hdc hv
   ·cases hc
  ·cases hc
 case slice t x lo hi mx =>
  split at hc
  ·rename_i e ht
   simp only[Option.bind_eq_some_iff]at hc
   obtain⟨sz,hs,d,hd,dlo,h1,dhi,h2,dmx,h3,hc⟩:=hc
   split at hc
   ·cases hc
   ·rename_i hok
    injection hc with hc;subst hc
    exact ic hn hR rfl hr fun v hv=>Gf hn hR hop ht hs hd h1 h2 h3 hok hv
  ·rename_i ht
   split at hc
   ·cases hc
   ·rename_i hmx
    simp only[Option.bind_eq_some_iff,Option.map_eq_some_iff]at hc
    obtain⟨d,hd,dlo,h1,dhi,h2,rfl⟩:=hc
    exact ic hn hR rfl hr fun v hv=>zh hn hR hop hmx ht hd h1 h2 hv
  ·rename_i len e ht
   split at hc
   ·cases hc
   ·rename_i hmx
    simp only[Option.bind_eq_some_iff,Option.map_eq_some_iff]at hc
    obtain⟨sz,hs,d,hd,dlo,h1,dhi,h2,rfl⟩:=hc
    exact t6 hn hR rfl hr fun v hv=>Dr hn hR hop hmx ht hs hd h1 h2 hv
  ·cases hc
 case fieldAddr t x i =>
  split at hc
  ·rename_i fs ht
   simp only[Option.bind_eq_some_iff]at hc
   obtain⟨f,hf,sz,hs,hc⟩:=hc
   split at hc
   ·cases hc
   ·rename_i h0
    simp only[Option.map_eq_some_iff]at hc
    obtain⟨d,hd,rfl⟩:=hc
    exact ic hn hR rfl hr fun v hv=>yn hn hR hop ht hf hs h0 hd hv
  ·cases hc
 case field t x i =>
  split at hc
  ·rename_i fs ht
   simp only[Option.bind_eq_some_iff,Option.map_eq_some_iff]at hc
   obtain⟨f,hf,ag,ha,sz,hs,d,hd,rfl⟩:=hc
   exact ic hn hR rfl hr fun v hv=>Hm hn hR hop ht hf ha hs hd hv
  ·cases hc
 case indexAddr t x i =>
  split at hc
  ·rename_i e ht
   simp only[Option.bind_eq_some_iff]at hc
   obtain⟨sz,hs,hc⟩:=hc
   split at hc
   ·cases hc
   ·rename_i h0
    simp only[Option.bind_eq_some_iff,Option.map_eq_some_iff]at hc
    obtain⟨d,hd,di,hdi,rfl⟩:=hc
    exact ic hn hR rfl hr fun v hv=>yj hn hR hop ht hs h0 hd hdi hv
  ·rename_i m e ht
   simp only[Option.bind_eq_some_iff]at hc
   obtain⟨sz,hs,hc⟩:=hc
   split at hc
   ·cases hc
   ·rename_i h0
    simp only[Option.bind_eq_some_iff,Option.map_eq_some_iff]at hc
    obtain⟨d,hd,di,hdi,rfl⟩:=hc
    exact ic hn hR rfl hr fun v hv=>vG hn hR hop ht hs h0 hd hdi hv
  ·cases hc
 case index t x i =>
  split at hc
  ·rename_i m e ht
   simp only[Option.bind_eq_some_iff]at hc
   obtain⟨ag,ha,sz,hs,hc⟩:=hc
   split at hc
   ·cases hc
   ·rename_i h0
    simp only[Option.bind_eq_some_iff,Option.map_eq_some_iff]at hc
    obtain⟨d,hd,di,hdi,rfl⟩:=hc
    exact ic hn hR rfl hr fun v hv=>Fp hn hR hop ht ha hs h0 hd hdi hv
  ·rename_i ht
   simp only[Option.bind_eq_some_iff,Option.map_eq_some_iff]at hc
   obtain⟨d,hd,di,hdi,rfl⟩:=hc
   exact ic hn hR rfl hr fun v hv=>z3 hn hR hop ht hd hdi hv
  ·cases hc
 case lookup t x k ok =>
  split at hc
  ·rename_i kt e ht
   simp only[Option.bind_eq_some_iff,Option.map_eq_some_iff]at hc
   obtain⟨kk,hkk,z0,hz0,z,hz,d,hd,d',hd',rfl⟩:=hc
   exact t6 hn hR rfl hr fun v hv=>Fh hn hR hop ht hkk (Option.bind_eq_some_iff.2 hz0) hz hd hd' hv
  ·cases hc
 case mapUpdate t m k x =>
  split at hc
  ·rename_i kt e ht
   simp only[Option.bind_eq_some_iff,Option.map_eq_some_iff]at hc
   obtain⟨kk,hkk,d,hd,d',hd',d2,hd2,rfl⟩:=hc
   exact v6 hn hR (.inl hop) ht hkk hd hd' hd2 hr
  ·cases hc
 case insert t m k x =>
  split at hc
  ·rename_i kt e ht
   simp only[Option.bind_eq_some_iff,Option.map_eq_some_iff]at hc
   obtain⟨kk,hkk,d,hd,d',hd',d2,hd2,rfl⟩:=hc
   exact v6 hn hR (.inr hop) ht hkk hd hd' hd2 hr
  ·cases hc
 case extract x i =>
  simp only[Option.map_eq_some_iff]at hc
  obtain⟨d,hd,rfl⟩:=hc
  exact ic hn hR rfl hr fun v hv=>BH hn hR hop hd hv
 case panic x =>
  injection hc with hc;subst hc
  simp[fo,DOp.kind,a8]at hr
 case makeInterface t x =>
  injection hc with hc;subst hc
  simp[fo,DOp.kind,a8]at hr
 case call c =>
  split at hc
  ·simp only[Option.bind_eq_some_iff,Option.map_eq_some_iff]at hc
   obtain⟨k,hk,as,has,rfl⟩:=hc
   simp[fo,DOp.kind]at hr
  ·simp only[Option.map_eq_some_iff]at hc
   obtain⟨as,has,rfl⟩:=hc
   simp[fo,DOp.kind]at hr
  ·rename_i x t h1 h2 h3
   split at hc
   ·rename_i ht
    simp only[Option.map_eq_some_iff]at hc
    obtain⟨d,hd,rfl⟩:=hc
    exact t6 hn hR rfl hr fun v hv=>Br hn hR hop h1 h2 h3 (.inl ⟨rfl,ht⟩) hd hv
   ·rename_i e ht
    simp only[Option.map_eq_some_iff]at hc
    obtain⟨d,hd,rfl⟩:=hc
    exact t6 hn hR rfl hr fun v hv=>Br hn hR hop h1 h2 h3 (.inr (.inl ⟨rfl,e,ht⟩)) hd hv
   ·rename_i k e ht
    simp only[Option.map_eq_some_iff]at hc
    obtain⟨d,hd,rfl⟩:=hc
    exact t6 hn hR rfl hr fun v hv=>Br hn hR hop h1 h2 h3 (.inr (.inr ⟨rfl,k,e,ht⟩)) hd hv
   ·cases hc
  ·rename_i x y t u h1 h2 h3
   have ha':c.args=#[x,y]:=Array.toList_inj.1 (by simpa using h2)
   have hat':c.argTypes=#[t,u]:=Array.toList_inj.1 (by simpa using h3)
   split at hc
   ·rename_i e e' ht hu
    simp only[Option.bind_eq_some_iff]at hc
    obtain⟨sz,hs,hc⟩:=hc
    split at hc
    ·rename_i hcond
     simp only[Option.bind_eq_some_iff,Option.map_eq_some_iff]at hc
     obtain⟨d,hd,d2,hd2,rfl⟩:=hc
     exact xf hn hR ⟨c,t,u,e,hop,h1,ha',hat',ht,.inl ⟨e',hu⟩,hs,hcond.1,hcond.2.1,hcond.2.2⟩ hd hd2 hr
    ·cases hc
   ·rename_i e ht hu
    simp only[Option.bind_eq_some_iff]at hc
    obtain⟨sz,hs,hc⟩:=hc
    split at hc
    ·rename_i hcond
     simp only[Option.bind_eq_some_iff,Option.map_eq_some_iff]at hc
     obtain⟨d,hd,d2,hd2,rfl⟩:=hc
     exact xf hn hR ⟨c,t,u,e,hop,h1,ha',hat',ht,.inr hu,hs,hcond.1,hcond.2.1,hcond.2.2⟩ hd hd2 hr
    ·cases hc
   ·cases hc
  ·rename_i x t h1 h2 h3
   split at hc
   ·rename_i e ht
    simp only[Option.bind_eq_some_iff,Option.map_eq_some_iff]at hc
    obtain⟨z,hz,d,hd,rfl⟩:=hc
    exact HD hn hR hop h1 (Array.toList_inj.1 (by simpa using h2)) (Array.toList_inj.1 (by simpa using h3)) ht hz hd hr
   ·cases hc
  ·rename_i x y t u h1 h2 h3
   split at hc
   ·rename_i e ht
    simp only[Option.bind_eq_some_iff,Option.map_eq_some_iff]at hc
    obtain⟨sz,hs,d,hd,d2,hd2,rfl⟩:=hc
    exact I0 hn hR hop h1 (Array.toList_inj.1 (by simpa using h2)) (Array.toList_inj.1 (by simpa using h3)) ht hs hd hd2 hr
   ·cases hc
  ·rename_i x y h1 h2
   simp only[Option.bind_eq_some_iff,Option.map_eq_some_iff]at hc
   obtain⟨d,hd,d2,hd2,rfl⟩:=hc
   exact ic hn hR rfl hr fun v hv=>KH hn hR hop h1 h2 hd hd2 hv
  ·rename_i x y h1 h2
   simp only[Option.bind_eq_some_iff,Option.map_eq_some_iff]at hc
   obtain⟨d,hd,d2,hd2,rfl⟩:=hc
   exact ic hn hR rfl hr fun v hv=>KI hn hR hop h1 h2 hd hd2 hv
  ·cases hc
 all_goals (cases hc;done)
end
end
section
open Go
section
variable {φ:Phi} {num:FuncId→Option Nat} {P:Program} {X:Ctx} {n bs:Nat} {env:Env} {act:Act} {o:Oper} {v:AV}
theorem ROk.frozen {X':Ctx}(hw:X'.w=X.w)(hm:∀ B,X'.Mut B→X.Mut B){a:Addr}{vs:List Value}(h:ROk X a vs):ROk X' a vs :=
 ⟨h.1,by rw[hw];exact h.2.1,fun k=>h.2.2.1 (hm _ k),by rw[hw];exact h.2.2.2⟩
mutual
theorem VC.frozen {X':Ctx}(hw:X'.w=X.w)(hm:∀ B,X'.Mut B→X.Mut B):∀ {a:AV} {v:Value},VC φ X a v→a.frozen=true→VC φ X' a v
 | _,_,.bool b,_ => .bool b
 | _,_,.int k n,_ => .int k n
 | _,_,.str s,_ => .str s
 | _,_,.nilp,_ => .nilp
 | _,_,.ptr hid hg,h=>by simp[AV.frozen]at h
 | _,_,.rp hr hc,h => .rp (hr.frozen hw hm) (hc.frozen hw hm (by simpa[AV.frozen] using h))
 | _,_,.rd hr hc hn hf,h => .rd (fun hne=>let ⟨a0,e,r⟩:=hr hne;⟨a0,e,r.frozen hw hm⟩) (hc.frozen hw hm (by simpa[AV.frozen] using h)) hn hf
 | _,_,.own hid hl ha hg,h=>by simp[AV.frozen]at h
 | _,_,.nilm,_ => .nilm
 | _,_,.map hid hg,h=>by simp[AV.frozen]at h
 | _,_,.fn hf hc,h => .fn hf (hc.frozen hw hm (by simpa[AV.frozen] using h))
 | _,_,.nilf,_ => .nilf
 | _,_,.yield hid hg,h=>by simp[AV.frozen]at h
 | _,_,.nili,_ => .nili
theorem VCs.frozen {X':Ctx}(hw:X'.w=X.w)(hm:∀ B,X'.Mut B→X.Mut B):∀ {as:List AV} {vs:List Value},VCs φ X as vs→AV.frozenL as=true→VCs φ X' as vs
 | _,_,.nil,_ => .nil
 | _,_,.cons a b,h=>by
  simp only[AV.frozenL,Bool.and_eq_true]at h
  exact .cons (a.frozen hw hm h.1) (b.frozen hw hm h.2)
end
theorem VR.frozen {X':Ctx}(hw:X'.w=X.w)(hm:∀ B,X'.Mut B→X.Mut B){a:AV}{v:Value}(h:VR φ X a v)(hf:a.frozen=true):VR φ X' a v:=by
 cases h with
 | one h=>exact .one (h.frozen hw hm hf)
 | agg h=>exact .agg (h.frozen hw hm (by simpa[AV.frozen] using hf))
 | undef=>exact .undef _
theorem VRs.frozen {X':Ctx}(hw:X'.w=X.w)(hm:∀ B,X'.Mut B→X.Mut B):∀ {as:List AV} {vs:List Value},VRs φ X as vs→AV.frozenL as=true→VRs φ X' as vs
 | _,_,.nil,_ => .nil
 | _,_,.cons a b,h=>by
  simp only[AV.frozenL,Bool.and_eq_true]at h
  exact .cons (a.frozen hw hm h.1) (b.frozen hw hm h.2)
theorem VT.frozen {X':Ctx}(hw:X'.w=X.w)(hm:∀ B,X'.Mut B→X.Mut B){a:AV}{v:Value}(h:VT φ X a v)(hf:a.frozen=true):VT φ X' a v:=by
 cases h with
 | one h=>exact .one (h.frozen hw hm hf)
 | tup h=>exact .tup (h.frozen hw hm (by simpa[AV.frozen] using hf))
theorem ad.ext' {x y:ad}(e:x.get=y.get):x=y:=by cases x;cases y;cases e;rfl
open Classical in
noncomputable def Ctx.frz (X:Ctx)(S:Nat→Prop):Ctx:=⟨fun i=>if S i then none else X.κ i,X.h.drop S,X.w,X.M⟩
theorem qh (hX:bE φ X)(S:Nat→Prop):Le X (X.frz S)∧bE φ (X.frz S)∧∀ id B base,S id→X.κ id=some (B,base)→¬ (X.frz S).Mut B:=by
 have hk:∀ i x,(X.frz S).κ i=some x→¬ S i∧X.κ i=some x:=fun i x h=>by
  simp only[Ctx.frz]at h
  split at h
  ·cases h
  ·rename_i hs;exact⟨hs,h⟩
 have hg:∀ i o,(X.frz S).h.get i=some o→¬ S i∧X.h.get i=some o:=fun i o h=>by
  simp only[Ctx.frz,ad.drop]at h
  split at h
  ·cases h
  ·rename_i hs;exact⟨hs,h⟩
 have hle:Le X (X.frz S):={
  size:=Nat.le_refl _
  os:=rfl
  output:=rfl
  M:=rfl
  kept:=fun _ _ _=>rfl
  muts:=fun id B base h => .inl ⟨id,base,(hk _ _ h).2⟩
  shape:=fun B C T fr h=>⟨C,h,rfl⟩
  gen:=fun id _ g cs h=>⟨g,cs,(hg _ _ h).2,Nat.le_refl _,fun _=>by simp[Ctx.frz,(hg _ _ h).1]⟩
  map:=fun id _ kk es h=>⟨kk,es,(hg _ _ h).2,by simp[Ctx.frz,(hg _ _ h).1]⟩
  loop:=fun id _ st p env ps a b h=>⟨⟨st,p,env,ps,a,b,(hg _ _ h).2⟩,by simp[Ctx.frz,(hg _ _ h).1]⟩ }
 refine⟨hle,⟨fun id g cs h=>?_,fun id kk es h=>?_,fun id st p env ps a b h=>?_,fun i j B b1 b2 h1 h2=>hX.inj _ _ _ _ _ (hk _ _ h1).2 (hk _ _ h2).2,fun id B base h=>?_,fun id o h=>hX.ids _ _ (hg _ _ h).2,hX.mine,fun id cs h=>?_⟩,fun id B base hs h hm=>?_⟩
 ·obtain⟨B,base,C,T,vs,k1,k2,k3,k4,k5⟩:=hX.cells id g cs (hg _ _ h).2
  exact⟨B,base,C,T,vs,by simp[Ctx.frz,(hg _ _ h).1,k1],k2,k3,k4.le hle,k5⟩
 ·obtain⟨B,ents,clock,k1,k2,k3⟩:=hX.maps id kk es (hg _ _ h).2
  exact⟨B,ents,clock,by simp[Ctx.frz,(hg _ _ h).1,k1],k2,k3.le hle⟩
 ·obtain⟨B,k1,k2⟩:=hX.loops id _ _ _ _ _ _ (hg _ _ h).2
  exact⟨B,by simp[Ctx.frz,(hg _ _ h).1,k1],k2.le hle rfl⟩
 ·obtain⟨k1,k2,o,k3⟩:=hX.dom id B base (hk _ _ h).2
  exact⟨k1,k2,o,by simp[Ctx.frz,ad.drop,(hk _ _ h).1,k3]⟩
 ·obtain⟨B,k⟩:=hX.zero id cs (hg _ _ h).2
  exact⟨B,by simp[Ctx.frz,(hg _ _ h).1,k]⟩
 ·rcases hm with hm|⟨id',base',hm⟩
  ·exact(hX.dom _ _ _ h).2.1 hm
  ·obtain⟨m1,m2⟩:=hk _ _ hm
   obtain rfl:=hX.inj _ _ _ _ _ h m2
   exact m1 hs
theorem VC.ptrOk (hX:bE φ X){id g off:Nat}{w:Value}(h:VC φ X (.ptr id g off) w){cs:List AV}(hc:X.h.get id=some (.cells g cs)):∃ B base C T vs,w = .pointer (some ⟨B,base+off,none⟩)∧X.κ id=some (B,base)∧X.w.heap[B]?=some (.cells C T (0,0))∧base+cs.length≤C.size∧VCs φ X cs vs∧∀ (j:Nat) (v:Value),vs[j]?=some v→C[base+j]?=some v:=by
 cases h with
 | ptr hid hg =>
  obtain⟨B,base,k1,rfl⟩:=(hg g cs hc).2 rfl
  obtain⟨B2,base2,C,T,vs,q1,q2,q3,q4,q5⟩:=hX.cells id g cs hc
  rw[k1]at q1
  injection q1 with q1
  injection q1 with e1 e2
  subst e1 e2
  exact⟨B,base,C,T,vs,rfl,k1,q2,q3,q4,q5⟩
mutual
theorem FzV.ok {S:Nat→Prop}{Xf:Ctx}(hX:bE φ X)(hle:Le X Xf)(hw:Xf.w=X.w)(hS:∀ id B base,S id→X.κ id=some (B,base)→¬ Xf.Mut B):∀ {a a':AV},FzV X.h S a a'→∀ {v:Value},VC φ X a v→VC φ Xf a' v
  | _,_,.same a,_,h=>h.le hle
  | _,_,.own (len:=len) hs hg hl hc,_,h=>by
      obtain⟨a,cap,B,base,C,T,vs,rfl,hlc,ha,hC,hlim,k1,k2,k3,k4,k5⟩:=VC.of_own hX h hg
      obtain⟨q1,q2,q3⟩:=lO k4 k5 hl
      refine .rd (fun hne=>?_) (FzL.ok hX hle hw hS hc q1) hlc (fun h=>by cases h)
      have hcap:0<cap:=by
        rcases hne with h|h
        · omega
        · rcases Nat.eq_zero_or_pos cap with h0|h0
          · exfalso
            apply h
            apply List.eq_nil_of_length_eq_zero
            have hl0:len=0:=by omega
            rw[q2,hl0]
            simp
          · exact h0
      refine⟨_,ha hcap,rfl,?_,hS _ _ _ hs k1,fun j v hj=>?_⟩
      · rw[hw];exact(hX.dom _ _ _ k1).1
      · rw[hw,oN k2]
        exact q3 j v hj
  | _,_,.ptr (off:=off) hs hg hl hc,_,h=>by
      obtain⟨B,base,C,T,vs,rfl,k1,k2,k3,k4,k5⟩:=VC.ptrOk hX h hg
      refine .rp (vs:=vs.drop off) ⟨rfl,?_,hS _ _ _ hs k1,fun j v hj=>?_⟩ (FzL.ok hX hle hw hS hc (k4.drop off))
      · rw[hw];exact(hX.dom _ _ _ k1).1
      · rw[hw,oN k2]
        rw[List.getElem?_drop]at hj
        rw[Nat.add_assoc]
        exact k5 _ _ hj
  | _,_,.rd hc hf,_,h=>by
      cases h with
      | rd hr hcs hn2 hf2=>exact .rd (fun hne=>let ⟨a0,e,r⟩:=hr hne;⟨a0,e,r.le hle⟩) (FzL.ok hX hle hw hS hc hcs) hn2 (fun h=>hf2 (hf h))
  | _,_,.rp hc,_,h=>by
      cases h with
      | rp hr hcs=>exact .rp (hr.le hle) (FzL.ok hX hle hw hS hc hcs)
  | _,_,.agg hc,_,h=>by cases h
  | _,_,.tup hc,_,h=>by cases h
  | _,_,.fn hc,_,h=>by
      cases h with
      | fn hf hcs=>exact .fn hf (FzL.ok hX hle hw hS hc hcs)
  | _,_,.iface hv,_,h=>by cases h
theorem FzL.ok {S:Nat→Prop}{Xf:Ctx}(hX:bE φ X)(hle:Le X Xf)(hw:Xf.w=X.w)(hS:∀ id B base,S id→X.κ id=some (B,base)→¬ Xf.Mut B):∀ {as as':List AV},FzL X.h S as as'→∀ {vs:List Value},VCs φ X as vs→VCs φ Xf as' vs
  | _,_,.nil,_,h=>by cases h;exact .nil
  | _,_,.cons ha hr,_,h=>by
      cases h with
      | cons h1 h2=>exact .cons (FzV.ok hX hle hw hS ha h1) (FzL.ok hX hle hw hS hr h2)
end
theorem FzV.vr {S:Nat→Prop}(hX:bE φ X){a a':AV}(hf:FzV X.h S a a'){v:Value}(h:VR φ X a v):VR φ (X.frz S) a' v:=by
 obtain⟨hle,_,hS⟩:=qh hX S
 cases h with
 | one h=>exact .one (FzV.ok hX hle rfl hS hf h)
 | agg h=>cases hf with
  | same=>exact .agg (h.le hle)
  | agg hc=>exact .agg (FzL.ok hX hle rfl hS hc h)
 | undef=>cases hf;exact .undef _
theorem FzV.vt {S:Nat→Prop}(hX:bE φ X){a a':AV}(hf:FzV X.h S a a'){v:Value}(h:VT φ X a v):VT φ (X.frz S) a' v:=by
 obtain⟨hle,_,hS⟩:=qh hX S
 have hvr:∀ {a a':AV} {v:Value},FzV X.h S a a'→VR φ X a v→VR φ (X.frz S) a' v:=fun {a a' v} hf h=>by
  cases h with
  | one h=>exact .one (FzV.ok hX hle rfl hS hf h)
  | agg h=>cases hf with
   | same=>exact .agg (h.le hle)
   | agg hc=>exact .agg (FzL.ok hX hle rfl hS hc h)
  | undef=>cases hf;exact .undef _
 cases h with
 | one h=>exact .one (hvr hf h)
 | tup h=>cases hf with
  | same=>exact .tup (h.le hle)
  | tup hc =>
   refine .tup ?_
   clear hS
   rename_i as vs cs'
   induction h generalizing cs' with
   | nil=>cases hc;exact .nil
   | cons a b ih=>cases hc with
    | cons h1 h2=>exact .cons (hvr h1 a) (ih h2)
theorem FzL.vrs {S:Nat→Prop}(hX:bE φ X):∀ {as as':List AV},FzL X.h S as as'→∀ {vs:List Value},VRs φ X as vs→VRs φ (X.frz S) as' vs
  | _,_,.nil,_,h=>by cases h;exact .nil
  | _,_,.cons ha hr,_,h=>by
      cases h with
      | cons h1 h2=>exact .cons (FzV.vr hX ha h1) (FzL.vrs hX hr h2)
def fi (φ:Phi)(P:Program)(X:Ctx)(Q:AV→ad→Prop)(e:Ending)(w':World):Prop :=
 ∃ v v' X',e = .returned v'∧X'.w=w'∧Le X X'∧bE φ X'∧VT φ X' v v'∧Q v X'.h
theorem fi.quiet {Q:AV→ad→Prop}{e:Ending}{w':World}(h:fi φ P X (fun v h'=>X.h.Ext h'∧Q v X.h) e w'):fi φ P X Q e w':=by
 obtain⟨v,v',X',he,hw',hle,hok,hvt,hext,hq⟩:=h
 obtain⟨f1,f2,f3⟩:=qh hok (fun id=>X.h.get id=none)
 refine⟨v,v',X'.frz (fun id=>X.h.get id=none),he,hw',hle.trans f1,f2,hvt.le f1,?_⟩
 have:(X'.frz (fun id=>X.h.get id=none)).h=X.h:=by
  apply ad.ext'
  funext id
  simp only[Ctx.frz,ad.drop]
  by_cases hx:X.h.get id=none
  ·rw[if_pos hx,hx]
  ·rw[if_neg hx]
   obtain⟨o,ho⟩:=Option.ne_none_iff_exists'.1 hx
   rw[ho,hext id o ho]
 rw[this]
 exact hq
abbrev fc (r:Option Nat):Fence:={ Fence.wide with round:=r }
theorem qn {r:Option Nat}{n:Nat}{P:Program}{f:FuncId}{args:Array Value}{w:World}{R:Ending→World→Prop}(h:Calls P f args w R):CallsIn (fc r) n P f args w R :=
 (callsIn_wide (n:=n)).2 h
theorem HJ {r:Option Nat}{n:Nat}{P:Program}{f:FuncId}{args:Array Value}{w:World}{R:Ending→World→Prop}(h:CallsIn (fc r) n P f args w R):Calls P f args w R :=
 (callsIn_wide (n:=n)).1 h
structure FOk (φ:Phi)(P:Program)(F:bZ):Prop where
 fn:∀ f args h Q,F f args h Q→∀ X vals fid,X.h=h→bE φ X→VRs φ X args vals→φ f=some fid→Calls P fid vals.toArray X.w (fi φ P X Q)
 yield:∀ id args h Q,F fU (.yield id::args) h Q→∀ X vals l,X.h=h→bE φ X→VRs φ X args vals→VC φ X (.yield id) (.func (.yield l) #[] #[]) →
  ∃ fn tmps a b,(Instr.yield l vals.toArray).run P X.w = .ok (.round l fn tmps a b) X.w∧∀ r,RoundIn (fc r) 0 P l fn tmps a b X.w (fi φ P X Q)
theorem r9 {F:bZ}(hF:FOk φ P F){p id:Nat}{args:List AV}{Q:AV→ad→Prop}(hw:bJ F p fU (.yield id::args) X.h Q)(hX:bE φ X){vals:List Value}(hv:VRs φ X args vals){l:Nat}(hl:VC φ X (.yield id) (.func (.yield l) #[] #[])) :
  ∃ fn tmps a b,(Instr.yield l vals.toArray).run P X.w = .ok (.round l fn tmps a b) X.w∧∀ r,RoundIn (fc r) 0 P l fn tmps a b X.w (fi φ P X Q):=by
 rcases hw with⟨_,hw⟩|⟨_,hw⟩|⟨hz,hw⟩|⟨_,hy,_⟩
 ·exact hF.yield id args X.h Q hw X vals l rfl hX hv hl
 ·obtain⟨fn,tmps,a,b,h1,h2⟩:=hF.yield id args X.h _ hw X vals l rfl hX hv hl
  exact⟨fn,tmps,a,b,h1,fun r=>(h2 r).mono fun e w' h=>h.quiet⟩
 ·simp[AV.frozenL,AV.frozen]at hz
 ·simp at hy
theorem fi.before {X0:Ctx}{Q:AV→ad→Prop}(hle:Le X0 X){e:Ending}{w':World}(h:fi φ P X Q e w'):fi φ P X0 Q e w':=by
 obtain⟨v,v',X',he,hw',hle',hok,hvt,hq⟩:=h
 exact⟨v,v',X',he,hw',hle.trans hle',hok,hvt,hq⟩
theorem tx {F:bZ}(hF:FOk φ P F){f:Nat}{args:List AV}{Q:AV→ad→Prop}(hz:AV.frozenL args=true)(hw:F f args ad.empty (fun v _=>v.frozen=true∧Q v X.h))(hX:bE φ X){vals:List Value}(hv:VRs φ X args vals){fid:FuncId}(hf:φ f=some fid) :
  Calls P fid vals.toArray X.w (fi φ P X Q):=by
 let X0:Ctx:=⟨fun _=>none,ad.empty,X.w,X.Mut⟩
 have hm:∀ B,X0.Mut B↔X.Mut B:=fun B=>⟨fun h=>h.elim id (fun⟨_,_,h⟩=>by cases h),.inl⟩
 have h0:bE φ X0:={
  cells:=fun id g cs h=>by cases h
  maps:=fun id kk es h=>by cases h
  zero:=fun id cs h=>by cases h
  loops:=fun id st p env ps a b h=>by cases h
  inj:=fun _ _ _ _ _ h=>by cases h
  dom:=fun _ _ _ h=>by cases h
  ids:=fun _ _ h=>by cases h
  mine:=fun B h=>by
   rcases h with h|⟨id,base,h⟩
   ·exact hX.mine B h
   ·exact(hX.dom _ _ _ h).1 }
 refine(hF.fn f args _ _ hw X0 vals fid rfl h0 (VRs.frozen (X:=X) (X':=X0) rfl (fun B h=>(hm B).1 h) hv hz) hf).mono ?_
 rintro e w' ⟨v,v',X',he,hw',hle,hok,hvt,hfz,hq⟩
 have hk:∀ B,B<X.w.heap.size→X'.w.heap[B]?=X.w.heap[B]?:=fun B hB=>hle.kept B hB (fun _ _ h=>by cases h)
 have hle1:Le X { X with w:=X'.w }:={
  size:=hle.size
  os:=hle.os
  output:=hle.output
  M:=rfl
  kept:=fun B hB _=>hk B hB
  muts:=fun id B base h => .inl ⟨id,base,h⟩
  shape:=fun B C T fr h=>⟨C,by rw[← h];exact hk B (Array.getElem?_eq_some_iff.1 h).1,rfl⟩
  gen:=fun id _ g cs h=>⟨g,cs,h,Nat.le_refl _,fun _=>rfl⟩
  map:=fun id _ kk es h=>⟨kk,es,h,rfl⟩
  loop:=fun id _ st p env ps a b h=>⟨⟨st,p,env,ps,a,b,h⟩,rfl⟩ }
 refine⟨v,v',{ X with w:=X'.w },he,hw',hle1,?_,?_,hq⟩
 ·refine⟨fun id g cs h=>?_,fun id kk es h=>?_,fun id st p env ps a b h=>?_,hX.inj,fun id B base h=>?_,fun id o h=>?_,fun B h=>?_,hX.zero⟩
  ·obtain⟨B,base,C,T,vs,k1,k2,k3,k4,k5⟩:=hX.cells id g cs h
   exact⟨B,base,C,T,vs,k1,(hk B (hX.dom _ _ _ k1).1).trans k2,k3,k4.le hle1,k5⟩
  ·obtain⟨B,ents,clock,k1,k2,k3⟩:=hX.maps id kk es h
   exact⟨B,ents,clock,k1,(hk B (hX.dom _ _ _ k1).1).trans k2,k3.le hle1⟩
  ·obtain⟨B,k1,k2⟩:=hX.loops id _ _ _ _ _ _ h
   exact⟨B,k1,k2.le hle1 (hk B (hX.dom _ _ _ k1).1)⟩
  ·obtain⟨k1,k2,k3⟩:=hX.dom id B base h
   exact⟨Nat.lt_of_lt_of_le k1 hle.size,k2,k3⟩
  ·exact Nat.lt_of_lt_of_le (hX.ids id o h) hle.size
  ·exact Nat.lt_of_lt_of_le (hX.mine B h) hle.size
 ·refine VT.frozen (X:=X') (X':={ X with w:=X'.w }) rfl (fun B h => .inl ?_) hvt hfz
  rw[hle.M]
  exact h
theorem yO {F:bZ}(hF:FOk φ P F){p:Nat}{f:Nat}{args:List AV}{Q:AV→ad→Prop}(hw:bJ F p f args X.h Q)(hX:bE φ X){vals:List Value}(hv:VRs φ X args vals){fid:FuncId}(hf:φ f=some fid) :
  Calls P fid vals.toArray X.w (fi φ P X Q):=by
 rcases hw with⟨_,hw⟩|⟨_,hw⟩|⟨hz,hw⟩|⟨_,_,S,args',hfz,hz,hw⟩
 ·exact hF.fn f args X.h Q hw X vals fid rfl hX hv hf
 ·exact(hF.fn f args X.h _ hw X vals fid rfl hX hv hf).mono fun e w' h=>h.quiet
 ·exact tx hF hz hw hX hv hf
 ·obtain⟨hle,hX2,_⟩:=qh hX S
  exact(tx (X:=X.frz S) hF hz hw hX2 (hfz.vrs hX hv) hf).mono fun e w' h=>h.before hle
def qt (φ : Phi) (P : Program) : Prop := ∀ k fid, φ k = some fid → ∃ fn, P.funcs[fid]? = some fn ∧ fn.body.isSome = true ∧ (fn.name == "runtime.NumGoroutine") = false
theorem nB (hE:qt φ P){k:Nat}{fid:FuncId}(hk:φ k=some fid)(args:Array Value)(w:World):(callFunc fid args).run P w = .ok (.enter fid args) w:=by
 obtain⟨fn,h1,h2,h3⟩:=hE k fid hk
 have h4:fn.body.isNone=false:=by cases hb:fn.body<;>simp_all
 have h5 : ¬ fn.name = "runtime.NumGoroutine" := by simpa using h3
 have h6:¬ fn.body=none:=by intro h;simp[h]at h2
 simp[callFunc,h1,h5,h6]
variable (hn:∀ f k,num f=some k→φ k=some f) (hR:Rel φ n bs X env act)
include hn hR
theorem th:∀ {xs:List Operand} {ds:List bA},nk num xs=some ds→(∀ d∈ds,(!(ev env d).isTup)=true)→VRs φ X (ds.map (ev env)) (xs.map act.eval)
 | [],ds,h,_=>by simp[nk]at h;subst h;exact .nil
 | x::xs,ds,h,hf=>by
  simp only[nk,Option.bind_eq_some_iff,Option.map_eq_some_iff]at h
  obtain⟨d,hd,es,he,rfl⟩:=h
  have h1:=hR.ev hn hd
  have h2:=hf d Lm
  refine .cons ?_ (th he fun d hd=>hf d (by simp[hd]))
  generalize ev env d=a at h1 h2
  generalize act.eval x=y at h1
  cases h1 with
  | one h=>exact h
  | tup h=>simp[AV.isTup]at h2
theorem VRs.append {as:List AV}{vs:List Value}(h:VRs φ X as vs){bs:List AV}{ws:List Value}(k:VCs φ X bs ws):VRs φ X (as++bs) (vs++ws):=by
 induction h with
 | nil =>
  simp only[List.nil_append]
  clear hn hR
  induction bs generalizing ws with
  | nil=>cases k;exact .nil
  | cons b bs ih=>cases k with
   | cons hb hbs=>exact .cons (.one hb) (ih hbs)
 | cons a b ih=>exact .cons a ih
omit hn hR in
theorem HN {bx:Bool}{po:Nat}{op:Op}{p:Nat}{k:Nat}{ds:List bA}(hc:cOp num P bx po op=some (.call p k ds)) :
  ∃ c g,op = .call c∧c.callee = .value (.func g)∧num g=some k∧nk num c.args.toList=some ds:=by
 cases op<;>simp only[cOp]at hc
 case call c =>
  split at hc
  ·rename_i g as _ h1
   simp only[Option.bind_eq_some_iff,Option.map_eq_some_iff]at hc
   obtain⟨k,hk1,ds,hds,h⟩:=hc
   injection h with h1' h2' h3'
   subst h2' h3'
   exact⟨c,_,rfl,h1,hk1,hds⟩
  all_goals (repeat' split at hc)<;>simp[Option.bind_eq_some_iff]at hc
 case makeFunc fn _ _=>cases fn<;>simp only[cOp]at hc<;>(repeat' split at hc)<;>simp[Option.bind_eq_some_iff]at hc
 case makeMap t r=>cases r<;>simp only[cOp]at hc<;>(repeat' split at hc)<;>simp at hc
 all_goals first
  | (cases hc;done)
  | (simp[Option.bind_eq_some_iff]at hc;done)
  | skip
 case build=>obtain⟨z,hz,hc⟩:=Option.bind_eq_some_iff.1 hc;(repeat' split at hc)<;>simp[Option.bind_eq_some_iff]at hc
 all_goals (repeat' split at hc)<;>first|(cases hc;done)|(simp[Option.bind_eq_some_iff]at hc;done)
omit hn hR in
theorem FD {bx:Bool}{po:Nat}{op:Op}{p:Nat}{x:bA}{ds:List bA}(hc:cOp num P bx po op=some (.callv p x ds)) :
  ∃ c t,op = .call c∧c.callee = .value (.tmp t)∧x = .tmp t∧nk num c.args.toList=some ds:=by
 cases op<;>simp only[cOp]at hc
 case call c =>
  split at hc
  rotate_left
  ·rename_i t as _ h1
   simp only[Option.map_eq_some_iff]at hc
   obtain⟨ds,hds,h⟩:=hc
   injection h with h1' h2' h3'
   subst h2' h3'
   exact⟨c,_,rfl,h1,rfl,hds⟩
  all_goals (repeat' split at hc)<;>simp[Option.bind_eq_some_iff]at hc
 case makeFunc fn _ _=>cases fn<;>simp only[cOp]at hc<;>(repeat' split at hc)<;>simp[Option.bind_eq_some_iff]at hc
 case makeMap t r=>cases r<;>simp only[cOp]at hc<;>(repeat' split at hc)<;>simp at hc
 all_goals first
  | (cases hc;done)
  | (simp[Option.bind_eq_some_iff]at hc;done)
  | skip
 case build=>obtain⟨z,hz,hc⟩:=Option.bind_eq_some_iff.1 hc;(repeat' split at hc)<;>simp[Option.bind_eq_some_iff]at hc
 all_goals (repeat' split at hc)<;>first|(cases hc;done)|(simp[Option.bind_eq_some_iff]at hc;done)
theorem sF (hE:qt φ P){bx:Bool}{po:Nat}{d:DOp}{p:Nat}{f:Nat}{args:List AV}(hc:cOp num P bx po o.op=some d)(hk:gG env d=some (p,f,args)) :
  (∃ fid vals,φ f=some fid∧VRs φ X args vals∧(execOp act.eval o).run P X.w = .ok (.enter fid vals.toArray) X.w) ∨
  ∃ id as l vals,f=fU∧args = .yield id::as∧VC φ X (.yield id) (.func (.yield l) #[] #[])∧VRs φ X as vals∧(execOp act.eval o).run P X.w=(Instr.yield l vals.toArray).run P X.w:=by
 cases d with
 | call p' k ds =>
  obtain⟨c,g,hop,h1,h2,h3⟩:=HN hc
  simp only[gG]at hk
  split at hk
  ·rename_i hall
   injection hk with hk
   simp only[Prod.mk.injEq]at hk
   obtain⟨rfl,rfl,rfl⟩:=hk
   rw[List.all_eq_true]at hall
   have hv:=th hn hR h3 hall
   refine .inl ⟨g,_,hn _ _ h2,hv,?_⟩
   simp only[execOp,hop,resolve,h1,Act.eval,Deferred.ofValue,Sem.run_bind,Sem.run_pure,Result.andThen_ok,invoke]
   simp only[Array.append_empty,Array.empty_append]
   rw[nB hE (hn _ _ h2)]
   congr 2
   apply Array.toList_inj.1
   simp
  ·cases hk
 | callv p' x ds =>
  obtain⟨c,t,hop,h1,rfl,h3⟩:=FD hc
  simp only[gG]at hk
  split at hk
  ·rename_i f' captured hx
   change env t=_ at hx
   split at hk
   ·rename_i hall
    injection hk with hk
    simp only[Prod.mk.injEq]at hk
    obtain⟨rfl,rfl,rfl⟩:=hk
    rw[List.all_eq_true]at hall
    have hv:=th hn hR h3 hall
    have ht:VT φ X (env t) (act.eval (.tmp t)):=hR.tmps t
    rw[hx]at ht
    have hvc:=ht.vc rfl
    generalize hy:act.eval (.tmp t)=y at hvc
    cases hvc with
    | fn hf hcap =>
     rename_i fid vs
     refine .inl ⟨fid,_,hf,VRs.append hn hR hv hcap,?_⟩
     simp only[execOp,hop,resolve,h1,hy,Deferred.ofValue,Sem.run_bind,Sem.run_pure,Result.andThen_ok,invoke]
     rw[nB hE hf]
     congr 2
     apply Array.toList_inj.1
     simp
   ·cases hk
  ·rename_i id hx
   change env t=_ at hx
   split at hk
   ·rename_i hall
    injection hk with hk
    simp only[Prod.mk.injEq]at hk
    obtain⟨rfl,rfl,rfl⟩:=hk
    rw[List.all_eq_true]at hall
    have hv:=th hn hR h3 hall
    have ht:VT φ X (env t) (act.eval (.tmp t)):=hR.tmps t
    rw[hx]at ht
    have hvc:=ht.vc rfl
    generalize hy:act.eval (.tmp t)=y at hvc
    cases hvc with
    | yield h4 h5 =>
     rename_i l
     refine .inr ⟨id,_,l,_,rfl,rfl,.yield h4 h5,hv,?_⟩
     simp only[execOp,hop,resolve,h1,hy,Deferred.ofValue,Sem.run_bind,Sem.run_pure,Result.andThen_ok,invoke]
     congr 2
     apply Array.toList_inj.1
     simp
   ·cases hk
  ·cases hk
 | _=>simp[gG]at hk
end
end
section
open Go
def bA.tmps:bA→List Nat
 | .tmp t=>[t]
 | .const _=>[]
def pf:Option bA→List Nat
 | none=>[]
 | some x=>x.tmps
def DOp.looks:DOp→List Nat
 | .mv x | .box x | .load _ _ _ x | .loadm _ x | .nilck x | .eqN _ x | .strOf x | .bytesOf x | .un _ x | .conv _ x | .fieldAddr _ x | .field _ _ _ x | .extract x _ | .len _ x | .clear _ x=>x.tmps
 | .pick a b c | .update _ a b c=>a.tmps++b.tmps++c.tmps
 | .alloc _ | .mkmap _ | .stuck=>[]
 | .build _ ps | .lit _ _ _ ps=>ps.flatMap fun p=>p.2.2.tmps
 | .store _ x y | .bin _ x y | .eqB _ x y | .eqS _ _ x y | .mkslice _ x y | .indexAddr _ x y | .indexAddrA _ _ x y | .indexA _ _ _ x y | .indexStr x y | .lookup _ _ _ x y | .copy _ x y | .append _ x y=>x.tmps++y.tmps
 | .mkfn _ xs | .mx xs | .mn xs | .call _ _ xs | .callk _ _ xs=>xs.flatMap bA.tmps
 | .callv _ x xs=>x.tmps++xs.flatMap bA.tmps
 | .slice _ x a b c=>x.tmps++pf a++pf b++pf c
 | .sliceStr x a b | .sliceA _ _ x a b=>x.tmps++pf a++pf b
def bK.looks (o:bK):List Nat:=o.op.looks++(match o.guard with
 | some (t,_)=>[t]
 | none=>[])
def apart (x y:bK):Bool :=
  (match x.dst with
   | some d => !y.looks.contains d&&y.dst != some d
   | none=>true) &&
  (match y.dst with
   | some d => !x.looks.contains d
   | none=>true)
def iL:DOp→Nat
 | .call p .. | .callv p ..=>p
 | _=>0
def yr (x y:bK):Bool :=
 apart x y &&
 match x.op.kind,y.op.kind with
 | .pure,_|_,.pure=>true
 | .read,.read | .read,.new | .new,.read | .new,.new=>true
 | .call,.read=>decide (1≤iL x.op)
 | .call,.new=>decide (2≤iL x.op)
 | .read,.call=>decide (1≤iL y.op)
 | .read,.callk=>(match x.op,y.op with
  | .loadm _ _,_=>true
  | _,.callk true _ _=>true
  | _,_=>false)
 | .read,.eff=>(match x.op,y.op with
  | .load true _ _ _,.append _ _ _=>true
  | _,_=>false)
 | .eff,.read=>(match x.op,y.op with
  | .append _ _ _,.load true _ _ _=>true
  | _,_=>false)
 | _,_=>false
def gl (l:List Nat)(env env':Env):Prop:=∀ t∈l,env t=env' t
theorem gl.e1 {x:bA}{env env':Env}(h:gl x.tmps env env'):ev env x=ev env' x:=by
 cases x with
 | tmp t=>exact h t (by simp[bA.tmps])
 | const v=>rfl
theorem gl.left {l r:List Nat}{env env':Env}(h:gl (l++r) env env'):gl l env env':=fun t ht=>h t (by simp[ht])
theorem gl.right {l r:List Nat}{env env':Env}(h:gl (l++r) env env'):gl r env env':=fun t ht=>h t (by simp[ht])
theorem gl.evs {xs:List bA}{env env':Env}(h:gl (xs.flatMap bA.tmps) env env'):xs.map (ev env)=xs.map (ev env'):=by
 apply List.map_congr_left
 intro x hx
 exact gl.e1 fun t ht=>h t (List.mem_flatMap.2 ⟨x,hx,ht⟩)
theorem gl.opt {x:Option bA}{env env':Env}(h:gl (pf x) env env')(d:Int):eY env d x=eY env' d x:=by
 cases x with
 | none=>rfl
 | some x=>simp only[eY];rw[gl.e1 h]
theorem gl.fill {env env':Env}:∀ {ps:List (Nat×Nat×bA)},gl (ps.flatMap fun p=>p.2.2.tmps) env env'→∀ cs,ft env cs ps=ft env' cs ps
 | [],_,cs=>rfl
 | (a,b,x)::r,h,cs=>by
  have h1:gl x.tmps env env':=fun t ht=>h t (by simp[ht])
  have h2:gl (r.flatMap fun p=>p.2.2.tmps) env env':=fun t ht=>h t (by simp only[List.flatMap_cons,List.mem_append];exact .inr ht)
  simp only[ft]
  rw[h1.e1]
  split
  ·exact gl.fill h2 _
  ·rfl
theorem vy {env env':Env}{op:DOp}(h:gl op.looks env env'):a8 env op=a8 env' op:=by
 cases op<;>simp only[DOp.looks]at h<;>simp only[a8]
 case mv x=>rw[h.e1]
 case pick a b c=>rw[h.left.left.e1,h.left.right.e1,h.right.e1]
 case build z ps=>rw[h.fill]
 case lit a b z ps=>rw[h.fill]
 case nilck x=>rw[h.e1]
 case bin op x y=>rw[h.left.e1,h.right.e1]
 case eqB n x y=>rw[h.left.e1,h.right.e1]
 case un op x=>rw[h.e1]
 case eqS n k x y=>rw[h.left.e1,h.right.e1]
 case bytesOf x=>rw[h.e1]
 case conv k x=>rw[h.e1]
 case mkfn f xs =>
  rw[h.evs,show(xs.all fun x=>(ev env x).oneCell)=(xs.map (ev env)).all AV.oneCell by simp[List.all_map,Function.comp_def],show(xs.all fun x=>(ev env' x).oneCell)=(xs.map (ev env')).all AV.oneCell by simp[List.all_map,Function.comp_def],h.evs]
 case slice e x a b c=>rw[h.left.left.left.e1];simp only[h.left.left.right.opt,h.left.right.opt,h.right.opt]
 case sliceStr x a b=>rw[h.left.left.e1];simp only[h.left.right.opt,h.right.opt]
 case fieldAddr o x=>rw[h.e1]
 case field a b c x=>rw[h.e1]
 case indexAddr e x y=>rw[h.left.e1,h.right.e1]
 case indexAddrA a e x y=>rw[h.left.e1,h.right.e1]
 case indexA a e b x y=>rw[h.left.e1,h.right.e1]
 case indexStr x y=>rw[h.left.e1,h.right.e1]
 case extract x i=>rw[h.e1]
 case mx xs=>rw[h.evs]
 case mn xs=>rw[h.evs]
theorem vx {env env':Env}{h:ad}{op:DOp}(hg:gl op.looks env env'):bg env h op=bg env' h op:=by
 cases op<;>simp only[DOp.looks]at hg<;>simp only[bg]
 case load b0 a b x=>rw[hg.e1]
 case loadm b0 x=>rw[hg.e1]
 case lookup kk z ok x k=>rw[hg.left.e1,hg.right.e1]
 case len k x=>rw[hg.e1]
 case strOf x=>rw[hg.e1]
 case sliceA n e x a b=>rw[hg.left.left.e1];simp only[hg.left.right.opt,hg.right.opt]
theorem ya {env env':Env}{op:DOp}(hg:gl op.looks env env'):gT env op=gT env' op:=by
 cases op<;>simp only[DOp.looks]at hg<;>simp only[gT]
 case box x=>rw[hg.e1]
 case mkslice z x y=>rw[hg.left.e1,hg.right.e1]
theorem yp {env env':Env}{h:ad}{op:DOp}(hg:gl op.looks env env'):dr env h op=dr env' h op:=by
 cases op<;>simp only[DOp.looks]at hg<;>simp only[dr]
 case store n x y=>rw[hg.left.e1,hg.right.e1]
 case update kk m k v=>rw[hg.left.left.e1,hg.left.right.e1,hg.right.e1]
 case append e x y=>rw[hg.left.e1,hg.right.e1]
 case clear z x=>rw[hg.e1]
 case eqN b x=>rw[hg.e1]
 case copy e x y=>rw[hg.left.e1,hg.right.e1]
theorem yx {env env':Env}{op:DOp}(hg:gl op.looks env env'):gG env op=gG env' op:=by
 cases op<;>simp only[DOp.looks]at hg<;>simp only[gG]
 case call p f xs =>
  rw[hg.evs,show(xs.all fun x => !(ev env x).isTup)=(xs.map (ev env)).all (fun x => !x.isTup) by simp[List.all_map,Function.comp_def],show(xs.all fun x => !(ev env' x).isTup)=(xs.map (ev env')).all (fun x => !x.isTup) by simp[List.all_map,Function.comp_def],hg.evs]
 case callv p x xs =>
  rw[hg.left.e1,hg.right.evs,show(xs.all fun x => !(ev env x).isTup)=(xs.map (ev env)).all (fun x => !x.isTup) by simp[List.all_map,Function.comp_def],show(xs.all fun x => !(ev env' x).isTup)=(xs.map (ev env')).all (fun x => !x.isTup) by simp[List.all_map,Function.comp_def],hg.right.evs]
theorem vK {env env':Env}{op:DOp}(hg:gl op.looks env env'):jh env op=jh env' op:=by
 cases op<;>simp only[DOp.looks]at hg<;>simp only[jh]
 case callk e f xs =>
  rw[hg.evs,show(xs.all fun x => !(ev env x).isTup)=(xs.map (ev env)).all (fun x => !x.isTup) by simp[List.all_map,Function.comp_def],show(xs.all fun x => !(ev env' x).isTup)=(xs.map (ev env')).all (fun x => !x.isTup) by simp[List.all_map,Function.comp_def],hg.evs]
inductive u7 where
 | bad
 | val (v:AV) (h:ad)
 | new (o:iQ) (f:Nat→AV)
 | both (f:Bool→AV)
 | call (p:Nat) (f:Nat) (args:List AV)
 | callk (e:Bool) (f:Nat) (args:List AV)
noncomputable def iA (env:Env)(h:ad)(op:DOp):u7 :=
 match op.kind with
 | .call=>(match gG env op with
  | some (p,f,args) => .call p f args
  | none => .bad)
 | .callk=>(match jh env op with
  | some (e,f,args) => .callk e f args
  | none => .bad)
 | _=>(match fo env h op with
  | none => .bad
  | some (.val v h') => .val v h'
  | some (.new o f) => .new o f
  | some (.both f) => .both f)
noncomputable def cD (env:Env)(h:ad)(o:bK):u7 :=
 match wanted env o.guard with
 | none => .bad
 | some false => .val (.tup []) h
 | some true=>iA env h o.op
def u7.sem (F:bZ)(h:ad)(Q:AV→ad→Prop):u7→Prop
 | .bad=>False
 | .val v h'=>Q v h'
 | .new o f=>∀ id,h.get id=none→Q (f id) (h.set id o)
 | .both f=>∀ b,Q (f b) h
 | .call p f args=>bJ F p f args h Q
 | .callk e f args=>F f args h (fun v h'=>yJ e h h'∧Q v h')
theorem fH {F:bZ}{o:bK}{Q:Env→ad→Prop}{env:Env}{h:ad}:cz F o Q env h↔(cD env h o).sem F h (fun v h'=>Q (putDst env o.dst v) h'):=by
 unfold cz cD
 cases wanted env o.guard with
 | none=>rfl
 | some b =>
  cases b with
  | false=>rfl
  | true =>
   simp only[iA,wop]
   by_cases hkk:o.op.kind = .callk
   ·rw[if_pos hkk,hkk]
    cases jh env o.op with
    | none=>rfl
    | some x=>rfl
   rw[if_neg hkk]
   by_cases hk:o.op.kind = .call
   ·rw[if_pos hk,hk]
    cases gG env o.op with
    | none=>rfl
    | some x=>rfl
   ·rw[if_neg hk]
    have:(match o.op.kind with
     | .call=>(match gG env o.op with
      | some (p,f,args)=>u7.call p f args
      | none => .bad)
     | .callk=>(match jh env o.op with
      | some (e,f,args)=>u7.callk e f args
      | none => .bad)
     | _=>(match fo env h o.op with
      | none => .bad
      | some (.val v h') => .val v h'
      | some (.new o f) => .new o f
      | some (.both f) => .both f))=(match fo env h o.op with
      | none => .bad
      | some (.val v h') => .val v h'
      | some (.new o f) => .new o f
      | some (.both f) => .both f):=by
     cases hk2:o.op.kind<;>first|rfl|exact absurd hk2 hk|exact absurd hk2 hkk
    rw[this]
    cases fo env h o.op with
    | none=>rfl
    | some r=>cases r<;>rfl
theorem zH {env env':Env}{h:ad}{op:DOp}(hg:gl op.looks env env'):fo env h op=fo env' h op:=by
 unfold fo
 rw[vy hg,vx hg,ya hg,yp hg]
theorem xn {env env':Env}{g:Option (Nat×Bool)}(hg:gl (match g with
 | some (t,_)=>[t]
 | none=>[]) env env'):wanted env g=wanted env' g:=by
 cases g with
 | none=>rfl
 | some g=>simp only[wanted];rw[hg g.1 Lm]
theorem kK {env env':Env}{h:ad}{o:bK}(hg:gl o.looks env env'):cD env h o=cD env' h o:=by
 unfold cD iA
 rw[xn hg.right,zH hg.left,yx hg.left,vK hg.left]
theorem lM {l:List Nat}{env:Env}{d:Option Nat}{v:AV}(h:∀ t,d=some t→t∉l):gl l (putDst env d v) env:=by
 intro t ht
 cases d with
 | none=>rfl
 | some d =>
  have:t≠d:=fun e=>h d rfl (e ▸ ht)
  simp[putDst,Env.put,this]
theorem cI {env:Env}{d e:Option Nat}{u v:AV}(h:∀ t,d=some t→e≠some t):putDst (putDst env d u) e v=putDst (putDst env e v) d u:=by
 cases d with
 | none=>rfl
 | some d =>
  cases e with
  | none=>rfl
  | some e =>
   have hne:e≠d:=fun he=>h d rfl (by rw[he])
   funext t
   simp only[putDst,Env.put]
   by_cases h1:t=e
   ·subst h1;simp[hne]
   ·simp[h1]
theorem qp {x y:bK}(h:apart x y=true):(∀ d,x.dst=some d→d∉y.looks)∧(∀ d,x.dst=some d→y.dst≠some d)∧(∀ d,y.dst=some d→d∉x.looks):=by
 refine⟨fun d hd=>?_,fun d hd=>?_,fun d hd=>?_⟩<;>simp[apart,hd]at h
 ·exact h.1.1
 ·exact h.1.2
 ·exact h.2
theorem kJ (env:Env)(h:ad)(o:bK):cD env h o = .bad∨cD env h o = .val (.tup []) h∧(∀ h',cD env h' o = .val (.tup []) h')∨(∀ h',cD env h' o=iA env h' o.op):=by
 unfold cD
 cases wanted env o.guard with
 | none=>exact .inl rfl
 | some b=>cases b with
  | false=>exact .inr (.inl ⟨rfl,fun _=>rfl⟩)
  | true=>exact .inr (.inr fun _=>rfl)
theorem mB {env:Env}{op:DOp}(hk:op.kind = .pure)(h:ad):iA env h op=(match a8 env op with
  | some v => .val v h
  | none => .bad):=by
 simp only[iA,hk,fo]
 cases a8 env op<;>rfl
theorem sw {env:Env}{op:DOp}(hk:op.kind = .read)(h:ad):iA env h op=(match bg env h op with
  | some v => .val v h
  | none => .bad):=by
 simp only[iA,hk,fo]
 cases bg env h op<;>rfl
theorem nK {env:Env}{op:DOp}(hk:op.kind = .new)(h:ad):iA env h op=(match gT env op with
  | some x => .new x.1 x.2
  | none => .bad):=by
 simp only[iA,hk,fo]
 cases gT env op<;>rfl
theorem mC {env:Env}{op:DOp}(hk:op.kind = .call)(h:ad):iA env h op=(match gG env op with
  | some (p,f,args) => .call p f args
  | none => .bad):=by
 simp only[iA,hk]
def nN (env:Env)(o:bK):Prop:=(∀ h,cD env h o = .bad)∨∃ v,∀ h,cD env h o = .val v h
theorem sc {env:Env}{o:bK}(hk:o.op.kind = .pure):nN env o:=by
 rcases kJ env ad.empty o with h|⟨_,h⟩|h
 ·unfold cD at h
  cases hw:wanted env o.guard with
  | none=>exact .inl fun h'=>by simp[cD,hw]
  | some b=>cases b with
   | false=>exact .inr ⟨(.tup []),fun h'=>by simp[cD,hw]⟩
   | true =>
    cases hv:a8 env o.op with
    | none=>exact .inl fun h'=>by simp[cD,hw,mB hk,hv]
    | some v=>exact .inr ⟨v,fun h'=>by simp[cD,hw,mB hk,hv]⟩
 ·exact .inr ⟨_,h⟩
 ·cases hv:a8 env o.op with
  | none=>exact .inl fun h'=>by rw[h,mB hk,hv]
  | some v=>exact .inr ⟨v,fun h'=>by rw[h,mB hk,hv]⟩
theorem tH {h h':ad}{esz:Nat}{a:AV}(hg:∀ i o,h.get i=some o→h'.get i=some o){x:Nat×List AV}(hx:bB h esz a=some x):bB h' esz a=some x:=by
 unfold bB at hx ⊢
 split at hx
 ·exact hx
 ·split at hx
  ·rename_i hcs;simp only[hg _ _ hcs];exact hx
  ·cases hx
 ·exact hx
 ·cases hx
theorem oh {env:Env}{h h':ad}{op:DOp}(hg:∀ i o,h.get i=some o→h'.get i=some o){v:AV}(hv:bg env h op=some v):bg env h' op=some v:=by
 cases op<;>simp only[bg]at hv ⊢<;>try (cases hv;done)
 case load b0 n ag x =>
  split at hv
  ·rename_i i g off hx
   split at hv
   ·rename_i g' cs hcs;rw[hg _ _ hcs];exact hv
   ·cases hv
  ·exact hv
  ·cases hv
 case loadm b0 x =>
  split at hv
  ·rename_i i g off hx
   split at hv
   ·rename_i g' cs hcs;rw[hg _ _ hcs];exact hv
   ·cases hv
  ·cases hv
 case lookup kk z ok x k =>
  split at hv
  ·rename_i hk
   rw[if_pos hk]
   split at hv
   ·rename_i i hx
    split at hv
    ·rename_i es hes;rw[hg _ _ hes];exact hv
    ·cases hv
   ·exact hv
   ·cases hv
  ·cases hv
 case sliceA n e x a b =>
  split at hv
  ·rename_i i g hx
   split at hv
   ·rename_i g' cs hcs;simp only[hg _ _ hcs];exact hv
   ·cases hv
  ·cases hv
 case strOf x =>
  split at hv
  ·cases hv
  ·rename_i hs
   rw[if_neg hs]
   simp only[Option.bind_eq_some_iff]at hv ⊢
   obtain⟨y,hy,hv⟩:=hv
   exact⟨y,tH hg hy,hv⟩
 case len k x =>
  split at hv
  ·exact hv
  ·exact hv
  ·exact hv
  ·exact hv
  ·rename_i i _ hx
   split at hv
   ·rename_i es hes;simp only[hg _ _ hes];exact hv
   ·cases hv
  ·cases hv
theorem kW {env:Env}{h:ad}{op:DOp}{id:Nat}{ob:iQ}(hid:h.get id=none){v:AV}(hv:bg env h op=some v):bg env (h.set id ob) op=some v:=by
 have hg:∀ i o,h.get i=some o→(h.set id ob).get i=some o:=fun i o hi=>by
  have:i≠id:=fun e=>by rw[e,hid]at hi;cases hi
  simp[ad.set,this,hi]
 exact oh hg hv
theorem pK {env:Env}{h:ad}{op:DOp}{ob:iQ}{v:Nat→AV}(hv:∀ id,h.get id=none→bg env (h.set id ob) op=some (v id)):∃ v',bg env h op=some v':=by
 have hg:∀ i,∃ id,h.get id=none∧(h.set id ob).get i=h.get i:=fun i=>by
  obtain⟨id,h1,h2⟩:=h.fresh_ne i
  exact⟨id,h2,by simp[ad.set,Ne.symm h1]⟩
 obtain⟨id0,hid0⟩:=h.fresh
 have h0:=hv id0 hid0
 cases op<;>simp only[bg]at hv h0 ⊢<;>try (cases h0;done)
 case load b0 n ag x =>
  split at h0
  ·rename_i i g off hx
   obtain⟨id,h1,h2⟩:=hg i
   have h3:=hv id h1
   simp only[hx,h2]at h3
   exact⟨_,h3⟩
  ·exact⟨_,h0⟩
  ·cases h0
 case loadm b0 x =>
  split at h0
  ·rename_i i g off hx
   obtain⟨id,h1,h2⟩:=hg i
   have h3:=hv id h1
   simp only[hx,h2]at h3
   exact⟨_,h3⟩
  ·cases h0
 case lookup kk z ok x k =>
  split at h0
  ·rename_i hk
   rw[if_pos hk]
   split at h0
   ·rename_i i hx
    obtain⟨id,h1,h2⟩:=hg i
    have h3:=hv id h1
    simp only[if_pos hk,hx,h2]at h3
    exact⟨_,h3⟩
   ·exact⟨_,h0⟩
   ·cases h0
  ·cases h0
 case sliceA n e x a b =>
  split at h0
  ·rename_i i g hx
   obtain⟨id,h1,h2⟩:=hg i
   have h3:=hv id h1
   simp only[hx,h2]at h3
   exact⟨_,h3⟩
  ·cases h0
 case strOf x =>
  have hs:∃ id,h.get id=none∧bB (h.set id ob) 1 (ev env x)=bB h 1 (ev env x):=by
   cases hx:ev env x with
   | own i g e off len lim =>
    obtain⟨id,h1,h2⟩:=hg i
    exact⟨id,h1,by simp only[bB,h2]⟩
   | _=>exact⟨id0,hid0,rfl⟩
  obtain⟨id,h1,h2⟩:=hs
  have h3:=hv id h1
  rw[h2]at h3
  exact⟨_,h3⟩
 case len k x =>
  split at h0
  ·exact⟨_,h0⟩
  ·exact⟨_,h0⟩
  ·exact⟨_,h0⟩
  ·exact⟨_,h0⟩
  ·rename_i i hx
   obtain⟨id,h1,h2⟩:=hg i
   have h3:=hv id h1
   simp only[hx,h2]at h3
   exact⟨_,h3⟩
  ·cases h0
theorem ad.set_comm {h:ad}{i j:Nat}(hne:i≠j)(a b:iQ):(h.set i a).set j b=(h.set j b).set i a:=by
 have:∀ x y:ad,x.get=y.get→x=y:=fun x y e=>by cases x;cases y;cases e;rfl
 apply this
 funext k
 simp only[ad.set]
 by_cases h1:k=i
 ·subst h1;simp[hne]
 ·simp[h1]
theorem vI {F:bZ}(hF:mH F){h:ad}{Q:AV→ad→Prop}{f:u7}(hs:f.sem F h Q):∃ v h',Q v h':=by
 cases f with
 | bad=>exact hs.elim
 | val v h'=>exact⟨_,_,hs⟩
 | new o f=>obtain⟨id,hid⟩:=h.fresh;exact⟨_,_,hs id hid⟩
 | both f=>exact⟨_,_,hs true⟩
 | call p f args =>
  rcases hs with⟨_,hs⟩|⟨_,hs⟩|⟨_,hs⟩|⟨_,_,_,_,_,_,hs⟩
  ·exact hF _ _ _ _ hs
  ·obtain⟨v,h',_,hq⟩:=hF _ _ _ _ hs
   exact⟨v,_,hq⟩
  ·obtain⟨v,h',_,hq⟩:=hF _ _ _ _ hs
   exact⟨v,_,hq⟩
  ·obtain⟨v,h',_,hq⟩:=hF _ _ _ _ hs
   exact⟨v,_,hq⟩
 | callk e f args =>
  obtain⟨v,h',_,hq⟩:=hF _ _ _ _ hs
  exact⟨v,h',hq⟩
theorem Bv {env:Env}{h h':ad}{b:Bool}{x:bA}{u:AV}(hk:H3 h h')(hv:bg env h (.loadm b x)=some u):bg env h' (.loadm b x)=some u:=by
 simp only[bg]at hv ⊢
 split at hv
 ·rename_i i g off hx
  split at hv
  ·rename_i g' cs hcs
   split at hv
   ·rename_i hc
    split at hv
    ·rename_i m hm
     have hm2:cs[off]?=some (AV.map m):=by
      have:=hc.2.2
      rw[List.getD_eq_getElem?_getD]at hm
      cases ho:cs[off]? with
      | none=>rw[ho]at hm;cases hm
      | some y=>rw[ho]at hm;simp only[Option.getD_some]at hm;rw[hm]
     obtain⟨cs',e1,e2⟩:=hk _ _ _ _ _ hcs hm2
     rw[e1]
     have hl:=(List.getElem?_eq_some_iff.1 e2).1
     simp only
     rw[if_pos ⟨hc.1,hc.2.1,hl⟩,List.getD_eq_getElem?_getD,e2]
     exact hv
    ·cases hv
   ·cases hv
  ·cases hv
 ·cases hv
theorem pM {F:bZ}(hm:jL F){h:ad}{Q Q':AV→ad→Prop}(hq:∀ v h,Q v h→Q' v h){f:u7}(hs:f.sem F h Q):f.sem F h Q':=by
 cases f with
 | bad=>exact hs
 | val v h'=>exact hq _ _ hs
 | new o f=>exact fun id hid=>hq _ _ (hs id hid)
 | both f=>exact fun b=>hq _ _ (hs b)
 | call p f args=>exact tz (fun _ _ _ _ h=>h) hm hq hs
 | callk e f args=>exact hm _ _ _ _ _ (fun v h ⟨a,b⟩=>⟨a,hq _ _ b⟩) hs
theorem qA {F:bZ}(hF:mH F)(hm:jL F){x y:bK}{Q:Env→ad→Prop}{env:Env}{h:ad}(ha:apart x y=true)(hy:nN env y)(hs:cz F x (cz F y Q) env h):cz F y (cz F x Q) env h:=by
 obtain⟨a1,a2,a3⟩:=qp ha
 rw[fH]at hs
 have hyv:∀ v h',cD (putDst env x.dst v) h' y=cD env h' y:=fun v h'=>kK (lM a1)
 rcases hy with hy|⟨u,hy⟩
 ·obtain⟨v,h',hh⟩:=vI hF hs
  rw[fH,hyv,hy]at hh
  exact hh.elim
 ·rw[fH,hy]
  show cz F x Q (putDst env y.dst u) h
  rw[fH,kK (lM a3)]
  refine pM hm (fun v h' hh=>?_) hs
  rw[fH,hyv,hy]at hh
  have:Q (putDst (putDst env x.dst v) y.dst u) h':=hh
  rwa [cI a2]at this
theorem rA {F:bZ}(hm:jL F){x y:bK}{Q:Env→ad→Prop}{env:Env}{h:ad}(ha:apart x y=true)(hx:nN env x)(hs:cz F x (cz F y Q) env h):cz F y (cz F x Q) env h:=by
 obtain⟨a1,a2,a3⟩:=qp ha
 rcases hx with hx|⟨u,hx⟩
 ·rw[fH,hx]at hs
  exact hs.elim
 ·rw[fH,hx]at hs
  have hs:cz F y Q (putDst env x.dst u) h:=hs
  rw[fH,kK (lM a1)]at hs
  rw[fH]
  refine pM hm (fun v h' hh=>?_) hs
  rw[fH,kK (lM a3),hx]
  show Q (putDst (putDst env y.dst v) x.dst u) h'
  rw[← cI a2]
  exact hh
theorem dQ {env:Env}{o:bK}(hk:o.op.kind = .read):nN env o∨∀ h,cD env h o=(match bg env h o.op with
  | some v => .val v h
  | none => .bad):=by
 rcases kJ env ad.empty o with h|⟨_,h⟩|h
 ·unfold cD at h
  cases hw:wanted env o.guard with
  | none=>exact .inl (.inl fun h'=>by simp[cD,hw])
  | some b=>cases b with
   | false=>exact .inl (.inr ⟨(.tup []),fun h'=>by simp[cD,hw]⟩)
   | true=>exact .inr fun h'=>by simp only[cD,hw];exact sw hk h'
 ·exact .inl (.inr ⟨_,h⟩)
 ·exact .inr fun h'=>by rw[h,sw hk]
theorem jt {env:Env}{o:bK}(hk:o.op.kind = .new):nN env o∨∃ ob f,∀ h,cD env h o = .new ob f:=by
 rcases kJ env ad.empty o with h|⟨_,h⟩|h
 ·unfold cD at h
  cases hw:wanted env o.guard with
  | none=>exact .inl (.inl fun h'=>by simp[cD,hw])
  | some b=>cases b with
   | false=>exact .inl (.inr ⟨(.tup []),fun h'=>by simp[cD,hw]⟩)
   | true =>
    cases hv:gT env o.op with
    | none=>exact .inl (.inl fun h'=>by simp only[cD,hw,nK hk,hv])
    | some x=>exact .inr ⟨x.1,x.2,fun h'=>by simp only[cD,hw,nK hk,hv]⟩
 ·exact .inl (.inr ⟨_,h⟩)
 ·cases hv:gT env o.op with
  | none=>exact .inl (.inl fun h'=>by rw[h,nK hk,hv])
  | some x=>exact .inr ⟨x.1,x.2,fun h'=>by rw[h,nK hk,hv]⟩
theorem lq {env:Env}{o:bK}(hk:o.op.kind = .call):nN env o∨∃ f args,∀ h,cD env h o = .call (iL o.op) f args:=by
 have hcall:∀ p f args,gG env o.op=some (p,f,args)→p=iL o.op:=by
  intro p f args hc
  cases ho:o.op<;>rw[ho]at hc<;>simp only[gG]at hc<;>try (cases hc;done)
  ·split at hc
   ·injection hc with hc;simp only[Prod.mk.injEq]at hc;rw[← hc.1];rfl
   ·cases hc
  ·split at hc
   ·split at hc
    ·injection hc with hc;simp only[Prod.mk.injEq]at hc;rw[← hc.1];rfl
    ·cases hc
   ·split at hc
    ·injection hc with hc;simp only[Prod.mk.injEq]at hc;rw[← hc.1];rfl
    ·cases hc
   ·cases hc
 rcases kJ env ad.empty o with h|⟨_,h⟩|h
 ·unfold cD at h
  cases hw:wanted env o.guard with
  | none=>exact .inl (.inl fun h'=>by simp[cD,hw])
  | some b=>cases b with
   | false=>exact .inl (.inr ⟨(.tup []),fun h'=>by simp[cD,hw]⟩)
   | true =>
    cases hv:gG env o.op with
    | none=>exact .inl (.inl fun h'=>by simp only[cD,hw,mC hk,hv])
    | some x =>
     obtain⟨p,f,args⟩:=x
     obtain rfl:=hcall _ _ _ hv
     exact .inr ⟨f,args,fun h'=>by simp only[cD,hw,mC hk,hv]⟩
 ·exact .inl (.inr ⟨_,h⟩)
 ·cases hv:gG env o.op with
  | none=>exact .inl (.inl fun h'=>by rw[h,mC hk,hv])
  | some x =>
   obtain⟨p,f,args⟩:=x
   obtain rfl:=hcall _ _ _ hv
   exact .inr ⟨f,args,fun h'=>by rw[h,mC hk,hv]⟩
def HK:DOp→Bool
 | .callk e _ _=>e
 | _=>false
theorem rQ {env:Env}{o:bK}(hk:o.op.kind = .callk):nN env o∨∃ e f args,HK o.op=e∧∀ h,cD env h o = .callk e f args:=by
 have hcall:∀ e f args,jh env o.op=some (e,f,args)→HK o.op=e:=by
  intro e f args hc
  cases ho:o.op<;>rw[ho]at hc<;>simp only[jh]at hc<;>try (cases hc;done)
  split at hc
  ·injection hc with hc;simp only[Prod.mk.injEq]at hc;rw[← hc.1];rfl
  ·cases hc
 have hf:∀ h,iA env h o.op=(match jh env o.op with
  | some (e,f,args) => .callk e f args
  | none => .bad):=fun h=>by simp only[iA,hk]
 rcases kJ env ad.empty o with h|⟨_,h⟩|h
 ·unfold cD at h
  cases hw:wanted env o.guard with
  | none=>exact .inl (.inl fun h'=>by simp[cD,hw])
  | some b=>cases b with
   | false=>exact .inl (.inr ⟨(.tup []),fun h'=>by simp[cD,hw]⟩)
   | true =>
    cases hv:jh env o.op with
    | none=>exact .inl (.inl fun h'=>by simp only[cD,hw,hf,hv])
    | some x =>
     obtain⟨e,f,args⟩:=x
     exact .inr ⟨e,f,args,hcall _ _ _ hv,fun h'=>by simp only[cD,hw,hf,hv]⟩
 ·exact .inl (.inr ⟨_,h⟩)
 ·cases hv:jh env o.op with
  | none=>exact .inl (.inl fun h'=>by rw[h,hf,hv])
  | some x =>
   obtain⟨e,f,args⟩:=x
   exact .inr ⟨e,f,args,hcall _ _ _ hv,fun h'=>by rw[h,hf,hv]⟩
def quiet (F:bZ)(f:Nat)(args:List AV)(h:ad)(Q:AV→Prop):Prop :=
 F f args h (fun v h'=>h.Ext h'∧Q v)∨(AV.frozenL args=true∧F f args ad.empty (fun v _=>v.frozen=true∧Q v))
theorem t9 {F:bZ}(hm:jL F){f args h}{Q Q':AV→Prop}(hq:∀ v,Q v→Q' v)(hw:quiet F f args h Q):quiet F f args h Q' :=
 hw.imp (hm _ _ _ _ _ fun v h ⟨a,b⟩=>⟨a,hq _ b⟩) fun⟨a,b⟩=>⟨a,hm _ _ _ _ _ (fun v h ⟨a,b⟩=>⟨a,hq _ b⟩) b⟩
theorem A8 {F:bZ}(hF:mH F){f args h}{Q:AV→Prop}(hw:quiet F f args h Q):∃ v,Q v:=by
 rcases hw with hw|⟨_,hw⟩
 ·obtain⟨v,_,_,h⟩:=hF _ _ _ _ hw;exact⟨v,h⟩
 ·obtain⟨v,_,_,h⟩:=hF _ _ _ _ hw;exact⟨v,h⟩
theorem mW {F:bZ}{m f:Nat}(hm:m=1∨2≤m){args:List AV}{h:ad}{Q:AV→ad→Prop} :
  (u7.call m f args).sem F h Q↔(if m=1 then quiet F f args h (fun v=>Q v h) else(AV.frozenL args=true∧F f args ad.empty (fun v _=>v.frozen=true∧Q v h))):=by
 simp only[u7.sem,bJ]
 rcases hm with rfl|hm
 ·simp[quiet]
 ·have h1:m≠0:=by omega
  have h2:¬ m≤1:=by omega
  have h3:m≠1:=by omega
  simp[h1,h2,h3]
theorem swap {F:bZ}(hF:mH F)(hm:jL F){x y:bK}{Q:Env→ad→Prop}{env:Env}{h:ad}(hc:yr x y=true)(hs:cz F x (cz F y Q) env h):cz F y (cz F x Q) env h:=by
 unfold yr at hc
 rw[Bool.and_eq_true]at hc
 obtain⟨ha,hc⟩:=hc
 obtain⟨a1,a2,a3⟩:=qp ha
 by_cases hx:nN env x
 ·exact rA hm ha hx hs
 by_cases hy:nN env y
 ·exact qA hF hm ha hy hs
 have hyv:∀ v h',cD (putDst env x.dst v) h' y=cD env h' y:=fun v h'=>kK (lM a1)
 have hxv:∀ v h',cD (putDst env y.dst v) h' x=cD env h' x:=fun v h'=>kK (lM a3)
 have hpx:x.op.kind ≠ .pure:=fun h=>hx (sc h)
 have hpy:y.op.kind ≠ .pure:=fun h=>hy (sc h)
 rw[fH]at hs ⊢
 simp only[fH,hyv]at hs
 simp only[fH,hxv]
 cases hkx:x.op.kind<;>cases hky:y.op.kind<;>rw[hkx,hky]at hc<;>simp only[Bool.false_eq_true]at hc<;>try (first|exact absurd hkx hpx|exact absurd hky hpy)
 ·-- read,read
  have fx:=(dQ (env:=env) hkx).resolve_left hx
  have fy:=(dQ (env:=env) hky).resolve_left hy
  rw[fx]at hs
  rw[fy]
  cases hvx:bg env h x.op with
  | none=>rw[hvx]at hs;exact hs.elim
  | some u =>
   rw[hvx]at hs
   have hs:(cD env h y).sem F h _:=hs
   rw[fy]at hs
   cases hvy:bg env h y.op with
   | none=>rw[hvy]at hs;exact hs.elim
   | some v =>
    rw[hvy]at hs
    show(cD env h x).sem F h _
    rw[fx,hvx]
    show Q _ h
    rw[← cI a2]
    exact hs
 ·-- read,new
  have fx:=(dQ (env:=env) hkx).resolve_left hx
  obtain⟨ob,f,fy⟩:=(jt (env:=env) hky).resolve_left hy
  rw[fx]at hs
  rw[fy]
  cases hvx:bg env h x.op with
  | none=>rw[hvx]at hs;exact hs.elim
  | some u =>
   rw[hvx]at hs
   have hs:(cD env h y).sem F h _:=hs
   rw[fy]at hs
   intro id hid
   rw[fx,kW hid hvx]
   show Q _ _
   rw[← cI a2]
   exact hs id hid
 ·-- read,eff
  have fx:=(dQ (env:=env) hkx).resolve_left hx
  split at hc
  ·rename_i n ag lx e xx yy hox hoy
   rw[fx]at hs
   cases hvx:bg env h x.op with
   | none=>rw[hvx]at hs;exact hs.elim
   | some u =>
    rw[hvx]at hs
    have hs:(cD env h y).sem F h _:=hs
    have hyf:∀ h',cD env h' y=iA env h' y.op:=by
     rcases kJ env ad.empty y with h0|⟨_,h0⟩|h0
     ·unfold cD at h0
      cases hw:wanted env y.guard with
      | none=>exact absurd (Or.inl fun h'=>by simp[cD,hw]) hy
      | some b=>cases b with
       | false=>exact absurd (Or.inr ⟨(.tup []),fun h'=>by simp[cD,hw]⟩) hy
       | true=>exact fun h'=>by simp[cD,hw]
     ·exact absurd (Or.inr ⟨_,h0⟩) hy
     ·exact h0
    rw[hyf]at hs ⊢
    simp only[iA,hky,fo]at hs ⊢
    -- what the load reads is no row
    have key:∀ id g o,h.get id=some (.cells g o)→1≤g→∀ ob,bg env (h.set id ob) x.op=some u:=by
     intro id g o hid hg ob
     rw[hox]at hvx ⊢
     simp only[bg]at hvx ⊢
     split at hvx
     ·rename_i i g2 off hx2
      split at hvx
      ·rename_i g3 cs3 hcs3
       split at hvx
       ·rename_i hcond
        have hne:i≠id:=by
         rintro rfl
         rw[hcs3]at hid
         injection hid with hid
         injection hid with e1 e2
         have:g2=0:=by simpa using hcond.2.1
         have:=hcond.1
         omega
        simp only[ad.set,if_neg hne,hcs3]
        rw[if_pos hcond]
        exact hvx
       ·cases hvx
      ·cases hvx
     ·exact hvx
     ·cases hvx
    cases hr:dr env h y.op with
    | none=>rw[hr]at hs;exact hs.elim
    | some r =>
     rw[hr]at hs
     rw[hoy]at hr
     simp only[dr,Option.bind_eq_some_iff]at hr
     obtain⟨⟨m,new⟩,_,hr⟩:=hr
     split at hr
     ·split at hr
      ·split at hr
       ·injection hr with hr
        subst hr
        show(cD env h x).sem F h _
        rw[fx,hvx]
        show Q _ _
        rw[← cI a2]
        exact hs
       ·split at hr
        ·injection hr with hr
         subst hr
         intro id hid
         rw[fx,kW hid hvx]
         show Q _ _
         rw[← cI a2]
         exact hs id hid
        ·cases hr
      ·cases hr
     ·rename_i id g e2 off len lim _
      split at hr
      ·rename_i g' cs hcs
       split at hr
       ·rename_i hcond
        split at hr
        ·injection hr with hr
         subst hr
         show(cD env _ x).sem F _ _
         rw[fx,key id g' cs hcs (by have:=hcond.1;have:=hcond.2.1;omega)]
         show Q _ _
         rw[← cI a2]
         exact hs
        ·split at hr
         ·injection hr with hr
          subst hr
          show(cD env h x).sem F h _
          rw[fx,hvx]
          show Q _ _
          rw[← cI a2]
          exact hs
         ·split at hr
          ·injection hr with hr
           subst hr
           intro id' hid'
           rw[fx,kW hid' hvx]
           show Q _ _
           rw[← cI a2]
           exact hs id' hid'
          ·cases hr
       ·cases hr
      ·cases hr
     ·cases hr
  ·cases hc
 ·-- read,call
  have hmode:iL y.op=1∨2≤iL y.op:=by have:=of_decide_eq_true hc;omega
  have fx:=(dQ (env:=env) hkx).resolve_left hx
  obtain⟨f,args,fy⟩:=(lq (env:=env) hky).resolve_left hy
  rw[fx]at hs
  cases hvx:bg env h x.op with
  | none=>rw[hvx]at hs;exact hs.elim
  | some u =>
   rw[hvx]at hs
   have hs:(cD env h y).sem F h _:=hs
   rw[fy,mW hmode]at hs ⊢
   have hstep:∀ v,Q (putDst (putDst env x.dst u) y.dst v) h→(cD env h x).sem F h (fun v_1 h'=>Q (putDst (putDst env y.dst v) x.dst v_1) h'):=fun v hv=>by
    rw[fx,hvx]
    show Q _ _
    rw[← cI a2]
    exact hv
   split at hs
   ·rename_i hm1
    rw[if_pos hm1]
    exact t9 hm hstep hs
   ·rename_i hm1
    rw[if_neg hm1]
    exact⟨hs.1,hm _ _ _ _ _ (fun v _ hv=>⟨hv.1,hstep v hv.2⟩) hs.2⟩
 ·-- read,callk
  have fx:=(dQ (env:=env) hkx).resolve_left hx
  obtain⟨e,f,args,he,fy⟩:=(rQ (env:=env) hky).resolve_left hy
  rw[fx]at hs
  cases hvx:bg env h x.op with
  | none=>rw[hvx]at hs;exact hs.elim
  | some u =>
   rw[hvx]at hs
   have hs:(cD env h y).sem F h _:=hs
   rw[fy]at hs ⊢
   refine hm _ _ _ _ _ (fun v h' hv=>⟨hv.1,?_⟩) hs
   have hrd:bg env h' x.op=some u:=by
    have hk:=hv.1
    split at hc
    ·rename_i b0 ax hox
     rw[hox]at hvx ⊢
     unfold yJ at hk
     split at hk
     ·exact oh hk hvx
     ·exact Bv hk hvx
    ·rename_i hoy _
     rw[hoy]at he
     have he:e=true:=he.symm
     unfold yJ at hk
     rw[if_pos he]at hk
     exact oh hk hvx
    ·cases hc
   show(cD env h' x).sem F h' _
   rw[fx,hrd]
   show Q _ _
   rw[← cI a2]
   exact hv.2
 ·-- new,read
  obtain⟨ob,f,fx⟩:=(jt (env:=env) hkx).resolve_left hx
  have fy:=(dQ (env:=env) hky).resolve_left hy
  rw[fx]at hs
  have hs:∀ id,h.get id=none→(cD env (h.set id ob) y).sem F (h.set id ob) (fun v h'=>Q (putDst (putDst env x.dst (f id)) y.dst v) h'):=hs
  have hv:∀ id,h.get id=none→∃ v,bg env (h.set id ob) y.op=some v:=fun id hid=>by
   have:=hs id hid
   rw[fy]at this
   cases hvy:bg env (h.set id ob) y.op with
   | none=>rw[hvy]at this;exact this.elim
   | some v=>exact⟨v,rfl⟩
  obtain⟨v0,hv0⟩:=pK (env:=env) (op:=y.op) (ob:=ob) (v:=fun id=>(bg env (h.set id ob) y.op).getD .undef) (fun id hid=>by obtain⟨v,e⟩:=hv id hid;simp[e])
  rw[fy,hv0]
  show(cD env h x).sem F h _
  rw[fx]
  intro id hid
  have:=hs id hid
  rw[fy,kW hid hv0]at this
  rw[← cI a2]
  exact this
 ·-- new,new
  obtain⟨ob,f,fx⟩:=(jt (env:=env) hkx).resolve_left hx
  obtain⟨ob2,f2,fy⟩:=(jt (env:=env) hky).resolve_left hy
  rw[fx]at hs
  have hs:∀ id,h.get id=none→(cD env (h.set id ob) y).sem F (h.set id ob) (fun v h'=>Q (putDst (putDst env x.dst (f id)) y.dst v) h'):=hs
  rw[fy]
  intro id hid
  rw[fx]
  intro id2 hid2
  have hne:id2≠id:=fun e=>by subst e;simp[ad.set]at hid2
  have hid2':h.get id2=none:=by simpa[ad.set,hne] using hid2
  have:=hs id2 hid2'
  rw[fy]at this
  have:=this id (by simp[ad.set,Ne.symm hne,hid])
  rw[ad.set_comm (Ne.symm hne),← cI a2]
  exact this
 ·-- eff,read
  have fy:=(dQ (env:=env) hky).resolve_left hy
  split at hc
  ·rename_i e xx yy n ag lx hox hoy
   have hxf:∀ h',cD env h' x=iA env h' x.op:=by
    rcases kJ env ad.empty x with h0|⟨_,h0⟩|h0
    ·unfold cD at h0
     cases hw:wanted env x.guard with
     | none=>exact absurd (Or.inl fun h'=>by simp[cD,hw]) hx
     | some b=>cases b with
      | false=>exact absurd (Or.inr ⟨(.tup []),fun h'=>by simp[cD,hw]⟩) hx
      | true=>exact fun h'=>by simp[cD,hw]
    ·exact absurd (Or.inr ⟨_,h0⟩) hx
    ·exact h0
   -- what the load reads is no row
   have key:∀ id g g2 o o2 v,h.get id=some (.cells g o)→1≤g2→bg env (h.set id (.cells g2 o2)) y.op=some v→bg env h y.op=some v:=by
    intro id g g2 o o2 v hid hg hvy
    rw[hoy]at hvy ⊢
    simp only[bg]at hvy ⊢
    split at hvy
    ·rename_i i g3 off hx2
     by_cases hne:i=id
     ·subst hne
      simp only[ad.set,if_true]at hvy
      split at hvy
      ·rename_i hcond
       have h1:g3=0:=by simpa using hcond.2.1
       have h2:=hcond.1
       omega
      ·cases hvy
     ·simp only[ad.set,if_neg hne]at hvy
      exact hvy
    ·exact hvy
    ·cases hvy
   have hs2:(cD env h x).sem F h (fun u h'=>(cD env h' y).sem F h' (fun v h''=>Q (putDst (putDst env x.dst u) y.dst v) h'')):=hs
   have fin1:∀ u h',cD env h x = .val u h'→(∀ v,bg env h' y.op=some v→bg env h y.op=some v)→(cD env h y).sem F h (fun v h1=>(cD env h1 x).sem F h1 (fun v_1 h'=>Q (putDst (putDst env y.dst v) x.dst v_1) h')):=by
    intro u h' he hk
    rw[he]at hs2
    have hs2:(cD env h' y).sem F h' _:=hs2
    rw[fy]at hs2
    cases hvy:bg env h' y.op with
    | none=>rw[hvy]at hs2;exact hs2.elim
    | some v =>
     rw[hvy]at hs2
     rw[fy,hk v hvy]
     show(cD env h x).sem F h _
     rw[he]
     show Q _ _
     rw[← cI a2]
     exact hs2
   have fin2:∀ ob f,cD env h x = .new ob f→(cD env h y).sem F h (fun v h1=>(cD env h1 x).sem F h1 (fun v_1 h'=>Q (putDst (putDst env y.dst v) x.dst v_1) h')):=by
    intro ob f he
    rw[he]at hs2
    have hs2:∀ id,h.get id=none→(cD env (h.set id ob) y).sem F (h.set id ob) (fun v h'=>Q (putDst (putDst env x.dst (f id)) y.dst v) h'):=hs2
    have hv:∀ id,h.get id=none→∃ v,bg env (h.set id ob) y.op=some v:=fun id hid=>by
     have:=hs2 id hid
     rw[fy]at this
     cases hvy:bg env (h.set id ob) y.op with
     | none=>rw[hvy]at this;exact this.elim
     | some v=>exact⟨v,rfl⟩
    obtain⟨v0,hv0⟩:=pK (env:=env) (op:=y.op) (ob:=ob) (v:=fun id=>(bg env (h.set id ob) y.op).getD .undef) (fun id hid=>by obtain⟨v,e⟩:=hv id hid;simp[e])
    rw[fy,hv0]
    show(cD env h x).sem F h _
    rw[he]
    intro id hid
    have:=hs2 id hid
    rw[fy,kW hid hv0]at this
    rw[← cI a2]
    exact this
   cases hr:dr env h x.op with
   | none =>
    rw[hxf]at hs2
    simp only[iA,hkx,fo,hr]at hs2
    exact hs2.elim
   | some r =>
    have he:cD env h x=(match r with
     | .val v h'=>u7.val v h'
     | .new o f => .new o f
     | .both f => .both f):=by
     rw[hxf]
     simp only[iA,hkx,fo,hr]
     cases r<;>rfl
    rw[hox]at hr
    simp only[dr,Option.bind_eq_some_iff]at hr
    obtain⟨⟨m,new⟩,_,hr⟩:=hr
    split at hr
    ·split at hr
     ·split at hr
      ·injection hr with hr
       subst hr
       exact fin1 _ _ he fun _ e=>e
      ·split at hr
       ·injection hr with hr
        subst hr
        exact fin2 _ _ he
       ·cases hr
     ·cases hr
    ·split at hr
     ·rename_i g' cs hcs
      split at hr
      ·rename_i hcond
       split at hr
       ·injection hr with hr
        subst hr
        exact fin1 _ _ he fun v e=>key _ _ _ _ _ v hcs Ll e
       ·split at hr
        ·injection hr with hr
         subst hr
         exact fin1 _ _ he fun _ e=>e
        ·split at hr
         ·injection hr with hr
          subst hr
          exact fin2 _ _ he
         ·cases hr
      ·cases hr
     ·cases hr
    ·cases hr
  ·cases hc
 ·-- call,read
  have hmode:iL x.op=1∨2≤iL x.op:=by have:=of_decide_eq_true hc;omega
  obtain⟨g,args,fx⟩:=(lq (env:=env) hkx).resolve_left hx
  have fy:=(dQ (env:=env) hky).resolve_left hy
  rw[fx,mW hmode]at hs
  simp only[fy]at hs
  rw[fy]
  cases hvy:bg env h y.op with
  | none =>
   rw[hvy]at hs
   split at hs
   ·obtain⟨v,hh⟩:=A8 hF hs
    exact hh.elim
   ·obtain⟨v,_,_,hh⟩:=hF _ _ _ _ hs.2
    exact hh.elim
  | some u =>
   rw[hvy]at hs
   show(cD env h x).sem F h _
   rw[fx,mW hmode]
   have hstep:∀ v,Q (putDst (putDst env x.dst v) y.dst u) h→Q (putDst (putDst env y.dst u) x.dst v) h:=fun v hv=>by
    rw[← cI a2]
    exact hv
   split at hs
   ·rename_i hm1
    rw[if_pos hm1]
    exact t9 hm hstep hs
   ·rename_i hm1
    rw[if_neg hm1]
    exact⟨hs.1,hm _ _ _ _ _ (fun v _ hv=>⟨hv.1,hstep v hv.2⟩) hs.2⟩
 ·-- call,new
  have hmode:iL x.op=1∨2≤iL x.op:=by have:=of_decide_eq_true hc;omega
  have hmode2:iL x.op≠1:=by have:=of_decide_eq_true hc;omega
  obtain⟨g,args,fx⟩:=(lq (env:=env) hkx).resolve_left hx
  obtain⟨ob,f,fy⟩:=(jt (env:=env) hky).resolve_left hy
  rw[fx,mW hmode,if_neg hmode2]at hs
  rw[fy]
  intro id hid
  rw[fx,mW hmode,if_neg hmode2]
  refine⟨hs.1,hm _ _ _ _ _ (fun v _ hv=>⟨hv.1,?_⟩) hs.2⟩
  have:=hv.2
  rw[fy]at this
  rw[← cI a2]
  exact this id hid
end
section
open Go
def Js (nt:Nat):Option Nat→Bool
 | some t=>decide (t<nt)
 | none=>true
def Jr (k:Nat):Option Bool:=if k=278 then some false else if k=296 then some true else none
def uu (lm:Bool):DOp→DOp
 | .call 1 f args=>(match Jr f with
  | some e => .callk e f args
  | none => .call 1 f args)
 | .load b 1 false x=>if lm then .loadm b x else .load b 1 false x
 | d=>d
def sH (num:FuncId→Option Nat)(P:Program)(nt:Nat)(ops:List Oper)(bx:Bool)(mode:Nat)(lm:Bool)(o:Oper):Option bK :=
 ((cOp num P bx mode o.op).bind fun d=>if d.kind = .callk then none else some (uu lm d)).bind fun d =>
  if Js nt o.dst=true then
   match o.guard with
   | none=>some ⟨o.dst,d,none⟩
   | some (j,b)=>match ops[j]?.bind (·.dst) with
    | some t=>some ⟨o.dst,d,some (t,b)⟩
    | none=>none
  else none
def oI (o:Oper):List Nat:=(o.after.toList.filter (Region.binds .any)).map (·.on)
def Co (ops:List Oper):List (List Nat) :=
 ops.foldl (fun acc o=>acc++[((oI o).flatMap fun j=>j::acc.getD j []).eraseDups]) []
def JU:Op→Bool
 | .load .. | .lookup .. | .call { callee := .builtin .len,.. }=>true
 | _=>false
def KJ:Op→Bool
 | .alloc .. | .box .. | .makeMap .. | .makeSlice ..=>true
 | _=>false
def Da (pr:List (List Nat))(i j:Nat):Bool:=if j<i then !(pr.getD i []).contains j else !(pr.getD j []).contains i
def KL:Op→Bool
 | .call { callee := .builtin .append,.. }=>true
 | _=>false
def yB (ops:List Oper)(pr:List (List Nat))(i:Nat)(p:Op→Bool):Bool :=
 (List.range ops.length).any fun j=>j != i&&Da pr i j&&(match ops[j]? with
  | some o=>p o.op
  | none=>false)
def G7:Op→Bool
 | .load ..=>true
 | _=>false
def JV:Op→Bool
 | .call { callee := .value _,.. }=>true
 | _=>false
def KK (num:FuncId→Option Nat):Op→Bool
 | .call { callee := .value (.func f),.. }=>((num f).map fun k=>Jr k == some false).getD false
 | _=>false
def uS (num:FuncId→Option Nat)(P:Program)(nt:Nat)(ops:List Oper)(draw:Bool)(pr:List (List Nat)):Nat→List Oper→Option (List bK)
  | _,[]=>some []
  | i,o::r=>(sH num P nt ops (draw&&G7 o.op&&yB ops pr i KL)
      (if draw&&JV o.op then(if yB ops pr i KJ then 2 else if yB ops pr i JU then 1 else 0) else 0) (draw&&G7 o.op&&yB ops pr i (KK num)) o).bind fun d=>(uS num P nt ops draw pr (i+1) r).map (d::·)
def ol (ops:List Oper)(pr:List (List Nat)):Bool :=
 (List.range ops.length).all fun i=>match ops[i]? with
  | some o=>(oI o).all (fun j=>decide (j<i))&&(pr.getD i []).all fun j=>(oI o).contains j||(oI o).any fun k=>(pr.getD k []).contains j
  | none=>true
def yt (pr:List (List Nat))(ds:List bK):Bool :=
 (List.range ds.length).all fun i=>(List.range i).all fun j=>(pr.getD i []).contains j||(match ds[j]?,ds[i]? with
  | some x,some y=>yr x y
  | _,_=>true)
def CH (num:FuncId→Option Nat)(P:Program)(nt:Nat)(ops:List Oper)(draw:Bool):Option (List bK) :=
 let pr:=if draw then Co ops else []
 (uS num P nt ops draw pr 0 ops).bind fun ds=>if draw=false∨(ol ops pr&&yt pr ds)=true then some ds else none
def ey:Code→Bool
 | .rangeFunc ..=>false
 | .seq a b=>ey a&&ey b
 | .cond _ a b=>ey a&&ey b
 | .block _ c | .loop c | .scope c=>ey c
 | _=>true
def ji (num:FuncId→Option Nat)(P:Program)(nt:Nat):Code→Option gk
  | .skip=>some .skip
  | .label _=>some .skip
  | .region _ ops draw=>(CH num P nt ops.toList draw).map .ops
  | .seq a b=>(ji num P nt a).bind fun a=>(ji num P nt b).map fun b => .seq a b
  | .cond c a b=>(cd num c).bind fun c=>(ji num P nt a).bind fun a=>(ji num P nt b).map fun b => .cond c a b
  | .block id c=>(ji num P nt c).map (.block id)
  | .loop c=>(ji num P nt c).map .loop
  | .scope c=>ji num P nt c
  | .rangeFunc f ps a b=>if ey a&&ey b&&ps.toList.all (fun t=>decide (t<nt)) then(match f with
      | .tmp t=>(ji num P nt a).bind fun a=>(ji num P nt b).map fun b => .rangef (.tmp t) ps.toList a b
      | _=>none) else none
  | .exit id=>some (.exit id)
  | .ret=>some .ret
  | _=>none
def yz (P:Program):List ResultVar→Option (List vP)
 | []=>some []
 | .tmp t::r=>(yz P r).map (.tmp t::·)
 | .cell a t::r=>(r6 P t).bind fun ag=>(szT P t).bind fun n=>(yz P r).map (.cell a (if ag then n else 1) ag::·)
def bM (num:FuncId→Option Nat)(P:Program)(fn:Func):Option bN :=
 fn.body.bind fun c=>(ji num P fn.ntmps c).bind fun d=>(yz P fn.results.toList).map fun rs=>⟨rs,d⟩
end
end Go.Proofs.YtlnobeojgifojaaGreatDoor
