/- Regions, code, functions: what the abstract machine says holds of the model. -/
import Derived.Test.YtlnobeojgifojaaGreatDoorA5
import Derived.Scope
import Derived.OrdersIn
import Derived.RangeFuncIn
import Derived.RangeFuncLeaves
import Derived.RangeFuncCalls
set_option linter.unusedSimpArgs false
set_option linter.unusedVariables false
set_option linter.unusedSectionVars false
namespace Go.Proofs.YtlnobeojgifojaaGreatDoor
section
open Go
theorem vL {num:FuncId→Option Nat}{P:Program}{bx:Bool}{po:Nat}{op:Op}{d:DOp}(h:cOp num P bx po op=some d):∀ c,op ≠ .defer c:=by
 rintro c rfl
 simp[cOp]at h
section
variable {r:Option Nat} {φ:Phi} {num:FuncId→Option Nat} {P:Program} {X:Ctx} {n bs:Nat} {env:Env} {act:Act} {o:Oper} {v:AV} {F:bZ}
theorem BQ {nt:Nat}{ops:List Oper}{bx lm:Bool}{po:Nat}{o:Oper}{d:bK}(h:sH num P nt ops bx po lm o=some d) :
  d.dst=o.dst∧(∃ d0,cOp num P bx po o.op=some d0∧d0.kind ≠ .callk∧d.op=uu lm d0)∧(∀ t,o.dst=some t→t<nt)∧(match o.guard with
   | none=>d.guard=none
   | some (j,b)=>∃ t,ops[j]?.bind (·.dst)=some t∧d.guard=some (t,b)):=by
 unfold sH at h
 simp only[Option.bind_eq_some_iff]at h
 obtain⟨dop,⟨d0,h0,h1⟩,h⟩:=h
 have h1:∃ d0,cOp num P bx po o.op=some d0∧d0.kind ≠ .callk∧dop=uu lm d0:=by
  split at h1
  ·cases h1
  ·rename_i hk
   injection h1 with h1
   exact⟨d0,h0,hk,h1.symm⟩
 split at h
 ·rename_i hd
  have hdst:∀ t,o.dst=some t→t<nt:=fun t ht=>by rw[ht]at hd;simpa[Js] using hd
  cases hg:o.guard with
  | none =>
   rw[hg]at h
   injection h with h;subst h
   exact⟨rfl,h1,hdst,rfl⟩
  | some g =>
   obtain⟨j,b⟩:=g
   rw[hg]at h
   simp only at h
   split at h
   ·rename_i t ht
    injection h with h;subst h
    exact⟨rfl,h1,hdst,t,ht,rfl⟩
   ·cases h
 ·cases h
theorem Bu {h:ad}{Q:AV→ad→Prop}{lm:Bool}{d:DOp}(hw:wop F env h Q (uu lm d))(hk:d.kind ≠ .callk):wop F env h Q d∨∃ f args,gG env d=some (1,f,args)∧∃ e,bJ F 0 f args h (fun v h'=>yJ e h h'∧Q v h'):=by
 unfold uu at hw
 split at hw
 ·rename_i f args
  split at hw
  ·rename_i e _
   unfold wop at hw
   rw[if_pos (show(DOp.callk e f args).kind = .callk from rfl)]at hw
   split at hw
   ·rename_i e' f' args' hc
    simp only[jh]at hc
    split at hc
    ·rename_i hall
     injection hc with hc
     simp only[Prod.mk.injEq]at hc
     obtain⟨rfl,rfl,rfl⟩:=hc
     exact .inr ⟨_,_,by simp only[gG];rw[if_pos hall],_,.inl ⟨rfl,hw⟩⟩
    ·cases hc
   ·exact hw.elim
  ·exact .inl hw
 ·rename_i b x
  split at hw
  ·left
   unfold wop at hw ⊢
   rw[if_neg (by simp[DOp.kind]),if_neg (by simp[DOp.kind])]at hw ⊢
   simp only[fo,DOp.kind,bg]at hw ⊢
   generalize ev env x=a at hw ⊢
   cases a<;>try exact hw.elim
   rename_i id g off
   simp only at hw ⊢
   generalize h.get id=ob at hw ⊢
   cases ob with
   | none=>exact hw.elim
   | some ob =>
    cases ob<;>try exact hw.elim
    rename_i g' cs
    simp only at hw ⊢
    split at hw
    ·rename_i hc
     rw[if_pos hc]
     simp only[part]at hw ⊢
     split at hw
     ·rename_i m hm
      rw[hm]
      exact hw
     ·exact hw.elim
    ·exact hw.elim
  ·exact .inl hw
 ·exact .inl hw
theorem C8 {ops:Array Oper}{d:bK}(hR:Rel φ n bs X env act)(hg:match o.guard with
      | none=>d.guard=none
      | some (j,b)=>∃ t,ops.toList[j]?.bind (·.dst)=some t∧d.guard=some (t,b)) {b:Bool} (hw:wanted env d.guard=some b):Region.wanted o (yielded ops act.tmps)=b:=by
  cases hog:o.guard with
  | none =>
    rw[hog]at hg
    simp only at hg
    rw[hg]at hw
    simp only[wanted,Option.some.injEq]at hw
    simp[Region.wanted,hog,hw]
  | some g =>
    obtain⟨j,c⟩:=g
    rw[hog]at hg
    obtain⟨t,ht,hdg⟩:=hg
    rw[hdg]at hw
    simp only[wanted]at hw
    split at hw
    · rename_i e he
      injection hw with hw
      have h1:=hR.tmps t
      rw[he]at h1
      have h2:=h1.bool
      have h3:act.tmps[t]?=some (.bool e):=by
        cases hx:act.tmps[t]? with
        | none=>rw[Array.getD_eq_getD_getElem?,hx]at h2;simp[undef]at h2
        | some y=>rw[Array.getD_eq_getD_getElem?,hx]at h2;simp at h2;rw[h2]
      have h4:(ops[j]?).bind (·.dst)=some t:=by simpa using ht
      simp only[Region.wanted,hog,yielded,h4,Option.bind_some,h3]
      rw[← hw]
      cases e<;>cases c<;>rfl
    · rename_i he
      injection hw with hw
      have h1:=hR.tmps t
      rw[he]at h1
      obtain⟨vs,h2,h3⟩:=h1.tups
      cases h3
      have h4:(ops[j]?).bind (·.dst)=some t:=by simpa using ht
      simp only[Region.wanted,hog,yielded,h4,Option.bind_some]
      rw[← hw]
      cases hx:act.tmps[t]? with
      | none=>rfl
      | some y =>
        rw[Array.getD_eq_getD_getElem?,hx]at h2
        simp at h2
        subst h2
        rfl
    · cases hw
variable (hn:∀ f k,num f=some k→φ k=some f) (hE:qt φ P) (hF:FOk φ P F)
include hn hE hF
theorem F3 {ops:Array Oper}{i:Nat}{d:bK}{bx lm:Bool}{po:Nat}(hR:Rel φ n bs X env act)(hi:ops[i]?=some o)(hc:sH num P n ops.toList bx po lm o=some d){Qd:Env→ad→Prop}(hw:cz F d Qd env X.h){Q':Exit→Act→World→Prop}{K:Act→World→Prop}
  (hK:∀ env' X' act',Le X X'→Rel φ n bs X' env' act'→Qd env' X'.h→K act' X'.w):wpOpIn (fc r) 0 P ops Q' i K act X.w:=by
 obtain⟨h1,h2,h3,h4⟩:=BQ hc
 unfold wpOpIn
 rw[hi]
 simp only
 unfold cz at hw
 cases hg:wanted env d.guard with
 | none=>rw[hg]at hw;exact hw.elim
 | some b =>
  rw[hg]at hw
  have hwd:=C8 hR h4 hg
  rw[hwd]
  have hput:∀ {X':Ctx} {v:AV} {v':Value},Le X X'→bE φ X'→VT φ X' v v'→Rel φ n bs X' (putDst env d.dst v) (act.put o.dst v'):=fun hle hh hv=>by
   rw[h1]
   exact(hR.le hle hh).putDst h3 hv
  cases b with
  | false =>
   simp only[Bool.false_eq_true,if_false]
   exact⟨fun _ _=>trivial,hK _ X _ (.refl X) (hput (.refl X) hR.heap (.tup .nil)) hw⟩
  | true =>
   simp only[if_true]
   obtain⟨d0,h2,hnk,hd0⟩:=h2
   rw[hd0]at hw
   unfold Oper.wpIn
   refine⟨fun _ _=>trivial,?_⟩
   rw[Oper.semAt_eq _ _ _ (vL h2)]
   rcases Bu hw hnk with hw|⟨f,args,hcall,e,hw⟩
   rotate_left
   ·rcases sF hn hR hE h2 hcall with⟨fid,vals,e1,e2,e3⟩|⟨id,as,l,vals,rfl,rfl,e1,e2,e3⟩
    rotate_left
    ·obtain⟨fn,tmps,ca,cb,e4,e5⟩:=r9 hF hw hR.heap e2 e1
     rw[e3,e4,Oper.uponIn_round]
     refine⟨fun h=>by simp[fc,Fence.wide]at h,(e5 r).mono ?_⟩
     rintro e w' ⟨v,v',X',rfl,rfl,hle,hh,hv,hq⟩
     exact hK _ X' _ hle (hput hle hh hv) hq.2
    rw[e3]
    rw[Oper.uponIn_enter]
    refine⟨fun h=>by simp[fc,Fence.wide]at h,qn ?_⟩
    refine(yO hF hw hR.heap e2 e1).mono ?_
    rintro e w' ⟨v,v',X',rfl,rfl,hle,hh,hv,hq⟩
    exact hK _ X' _ hle (hput hle hh hv) hq.2
   unfold wop at hw
   rw[if_neg hnk]at hw
   by_cases hk:d0.kind = .call
   ·rw[if_pos hk]at hw
    cases hcall:gG env d0 with
    | none=>rw[hcall]at hw;exact hw.elim
    | some x =>
     obtain⟨p,f,args⟩:=x
     rw[hcall]at hw
     rcases sF hn hR hE h2 hcall with⟨fid,vals,e1,e2,e3⟩|⟨id,as,l,vals,rfl,rfl,e1,e2,e3⟩
     rotate_left
     ·obtain⟨fn,tmps,ca,cb,e4,e5⟩:=r9 hF hw hR.heap e2 e1
      rw[e3,e4,Oper.uponIn_round]
      refine⟨fun h=>by simp[fc,Fence.wide]at h,(e5 r).mono ?_⟩
      rintro e w' ⟨v,v',X',rfl,rfl,hle,hh,hv,hq⟩
      exact hK _ X' _ hle (hput hle hh hv) hq
     rw[e3]
     rw[Oper.uponIn_enter]
     refine⟨fun h=>by simp[fc,Fence.wide]at h,qn ?_⟩
     refine(yO hF hw hR.heap e2 e1).mono ?_
     rintro e w' ⟨v,v',X',rfl,rfl,hle,hh,hv,hq⟩
     exact hK _ X' _ hle (hput hle hh hv) hq
   ·rw[if_neg hk]at hw
    cases hr:fo env X.h d0 with
    | none=>rw[hr]at hw;exact hw.elim
    | some r =>
     have hok:=KG hn hR h2 hr
     rw[hr]at hw
     cases r with
     | val v h' =>
      obtain⟨v',w',X',e1,rfl,rfl,hle,hh,hv⟩:=hok
      rcases e1 with e1|⟨e1,rfl⟩
      ·rw[e1]
       exact hK _ X' _ hle (hput hle hh hv) hw
      ·rw[e1]
       exact hK _ X' _ hle (hput hle hh hv) hw
     | new ob f =>
      obtain⟨v',w',X',e1,rfl,e2,hle,hh,hv⟩:=hok
      rw[e1]
      refine hK _ X' _ hle (hput hle hh hv) ?_
      rw[e2]
      exact hw _ hR.heap.fresh
     | both f =>
      obtain⟨b,v',e1,hv⟩:=hok
      rw[e1]
      exact hK _ X _ (.refl X) (hput (.refl X) hR.heap hv) (hw b)
theorem GM {ops:Array Oper}{Q':Exit→Act→World→Prop}{Qd:Env→ad→Prop}:∀ (l:List Nat) (ds:List bK) {X:Ctx} {env:Env} {act:Act},Rel φ n bs X env act →
  (∀ (k i:Nat),l[k]?=some i→∃ (o:Oper) (d:bK) (bx:Bool) (po:Nat) (lm:Bool),ops[i]?=some o∧ds[k]?=some d∧sH num P n ops.toList bx po lm o=some d)→l.length=ds.length→az F ds Qd env X.h →
  (∀ env' X' act',Le X X'→Rel φ n bs X' env' act'→Qd env' X'.h→Q' .normal act' X'.w)→wpOpsIn (fc r) 0 P ops Q' l act X.w
 | [],ds,X,env,act,hR,hl,hlen,hw,hQ=>by
  have:ds=[]:=List.eq_nil_of_length_eq_zero (by simpa using hlen.symm)
  subst this
  exact hQ _ X _ (.refl X) hR hw
 | i::l,[],X,env,act,hR,hl,hlen,hw,hQ=>by simp at hlen
 | i::l,d::ds,X,env,act,hR,hl,hlen,hw,hQ=>by
  rw[wpOpsIn_cons]
  obtain⟨o,d',bx,po,lm,h1,h2,h3⟩:=hl 0 i rfl
  simp only[List.getElem?_cons_zero,Option.some.injEq]at h2
  subst h2
  refine F3 hn hE hF hR h1 h3 (show cz F d (az F ds Qd) env X.h from hw) fun env' X' act' hle hR' hq=>?_
  refine GM l ds hR' (fun k j hj=>?_) (by simpa using hlen) hq (fun e2 X2 a2 hle2 hR2 hq2=>hQ e2 X2 a2 (hle.trans hle2) hR2 hq2)
  obtain⟨o,d,av,po,g1,g2,g3⟩:=hl (k+1) j (by simpa using hj)
  exact⟨o,d,av,po,g1,by simpa using g2,g3⟩
omit hn hE hF in
theorem sG {nt:Nat}{ops:List Oper}{draw:Bool}{pr:List (List Nat)}:∀ {l:List Oper} {i:Nat} {ds:List bK},uS num P nt ops draw pr i l=some ds→l.length=ds.length∧∀ (k:Nat) (o:Oper),l[k]?=some o→∃ (d:bK) (bx:Bool) (po:Nat) (lm:Bool),ds[k]?=some d∧sH num P nt ops bx po lm o=some d
 | [],i,ds,h=>by
  simp only[uS,Option.some.injEq]at h
  subst h
  exact⟨rfl,fun k o hk=>by simp at hk⟩
 | o::l,i,ds,h=>by
  simp only[uS,Option.bind_eq_some_iff,Option.map_eq_some_iff]at h
  obtain⟨d,hd,es,he,rfl⟩:=h
  obtain⟨g1,g2⟩:=sG he
  refine⟨by simp[g1],fun k o2 hk=>?_⟩
  cases k with
  | zero =>
   simp only[List.getElem?_cons_zero,Option.some.injEq]at hk
   subst hk
   exact⟨d,_,_,_,rfl,hd⟩
  | succ k=>simpa using g2 k o2 (by simpa using hk)
omit hn hE hF in
theorem uo (hFe:mH F)(hFm:jL F){d:bK}{L2:List bK}{Qd:Env→ad→Prop}:∀ (L1:List bK),(∀ x∈L1,yr x d=true)→∀ {env h},az F (L1++d::L2) Qd env h→az F (d::(L1++L2)) Qd env h
 | [],_,_,_,hw=>hw
 | x::L1,hc,env,h,hw=>by
  have hw:cz F x (az F (L1++d::L2) Qd) env h:=hw
  have h1:cz F x (cz F d (az F (L1++L2) Qd)) env h:=vQ (fun _ _ _ _ h=>h) hFm (fun e h hh=>uo hFe hFm L1 (fun y hy=>hc y (by simp[hy])) hh) hw
  exact swap hFe hFm (hc x Lm) h1
def rest (listed:Array Bool):Nat→List bK→List bK
 | _,[]=>[]
 | i,d::ds=>if listed.getD i false=true then rest listed (i+1) ds else d::rest listed (i+1) ds
omit hn hE hF in
theorem tX {listed:Array Bool}:∀ {ds:List bK} {i k:Nat} {d:bK},ds[k]?=some d→listed.getD (i+k) false=false→(i+k<listed.size) →
  ∃ L1 L2,rest listed i ds=L1++d::L2∧rest (listed.setIfInBounds (i+k) true) i ds=L1++L2∧∀ x∈L1,∃ j,j<k∧ds[j]?=some x∧listed.getD (i+j) false=false
 | [],i,k,d,h,_,_=>by simp at h
 | e::ds,i,0,d,h,hl,hs=>by
  simp only[List.getElem?_cons_zero,Option.some.injEq]at h
  subst h
  rw[Nat.add_zero]at hl hs
  refine⟨[],rest listed (i+1) ds,?_,?_,by simp⟩
  ·simp[rest,hl]
  ·have hsame:∀ (m:Nat) (l:List bK),i<m→rest (listed.setIfInBounds i true) m l=rest listed m l:=by
    intro m l
    induction l generalizing m with
    | nil=>intro _;rfl
    | cons x l ih =>
     intro hm
     simp only[rest]
     rw[getD_set_ne false Ll,ih (m+1) Ll]
   have h1:(listed.setIfInBounds i true).getD i false=true:=by simp[Array.getD,hs]
   show rest (listed.setIfInBounds i true) i (e::ds)=_
   simp only[rest,h1,if_true,List.nil_append]
   exact hsame _ _ Ll
 | e::ds,i,k+1,d,h,hl,hs=>by
  obtain⟨L1,L2,h1,h2,h3⟩:=tX (listed:=listed) (ds:=ds) (i:=i+1) (k:=k) (d:=d) (by simpa using h) (by rw[← hl];congr 1;omega) Ll
  rw[show i+1+k=i+(k+1) by omega]at h2
  by_cases he:listed.getD i false=true
  ·refine⟨L1,L2,by simp[rest,he,h1],?_,fun x hx=>?_⟩
   ·have:(listed.setIfInBounds (i+(k+1)) true).getD i false=true:=getD_set_true he
    simp only[rest,this,if_true]
    exact h2
   ·obtain⟨j,j1,j2,j3⟩:=h3 x hx
    exact⟨j+1,by omega,by simpa using j2,by rw[← j3];congr 1;omega⟩
  ·have he':listed.getD i false=false:=by simpa using he
   refine⟨e::L1,L2,by simp[rest,he',h1],?_,fun x hx=>?_⟩
   ·have:(listed.setIfInBounds (i+(k+1)) true).getD i false=false:=by rw[getD_set_ne false Ll];exact he'
    simp only[rest,this,Bool.false_eq_true,if_false,List.cons_append]
    rw[h2]
   ·rcases List.mem_cons.1 hx with rfl|hx
    ·exact⟨0,by omega,rfl,he'⟩
    ·obtain⟨j,j1,j2,j3⟩:=h3 x hx
     exact⟨j+1,by omega,by simpa using j2,by rw[← j3];congr 1;omega⟩
def KW (ops:Array Oper)(listed:Array Bool):Prop:=∀ i o,ops[i]?=some o→listed.getD i false=true→∀ j∈oI o,listed.getD j false=true
omit hn hE hF in
theorem xT {ops:Array Oper}{pr:List (List Nat)}(hp:ol ops.toList pr=true){listed:Array Bool}(hd:KW ops listed):∀ (i:Nat) (o:Oper),ops[i]?=some o→(∀ j∈oI o,listed.getD j false=true)→∀ j∈pr.getD i [],listed.getD j false=true:=by
 intro i
 induction i using Nat.strongRecOn with
 | _ i ih =>
  intro o ho hdir j hj
  have hlt:i<ops.size:=(Array.getElem?_eq_some_iff.1 ho).1
  unfold ol at hp
  rw[List.all_eq_true]at hp
  have h1:=hp i (List.mem_range.2 (by simpa using hlt))
  rw[show ops.toList[i]?=some o by simpa using ho]at h1
  simp only[Bool.and_eq_true,List.all_eq_true,decide_eq_true_eq,Bool.or_eq_true,List.contains_iff_mem,List.any_eq_true]at h1
  obtain⟨h2,h3⟩:=h1
  rcases h3 j hj with h|⟨k,hk,hjk⟩
  ·exact hdir j h
  ·have hki:=h2 k hk
   obtain⟨ok,hok⟩:∃ ok,ops[k]?=some ok:=⟨_,Array.getElem?_eq_getElem Ll⟩
   exact ih k hki ok hok (fun m hm=>hd k ok hok (hdir k hk) m hm) j hjk
omit hn hE hF in
theorem CD {listed:Array Bool}{i:Nat}(hi:i<listed.size)(h0:listed.getD i false=false):∀ m,(List.range m).countP (fun k => !(listed.setIfInBounds i true).getD k false)+(if i<m then 1 else 0)=(List.range m).countP (fun k => !listed.getD k false)
 | 0=>rfl
 | m+1=>by
  have ih:=CD hi h0 m
  rw[List.range_succ,List.countP_append,List.countP_append]
  by_cases hm:m=i
  ·subst hm
   have h1:(listed.setIfInBounds m true).getD m false=true:=by simp[Array.getD,hi]
   simp only[List.countP_singleton,h1,h0,Nat.lt_irrefl,if_false,Nat.add_zero,Bool.not_true,Bool.not_false,if_true,Bool.false_eq_true,Nat.lt_succ_self]at ih ⊢
   omega
  ·have h1:(listed.setIfInBounds i true).getD m false=listed.getD m false:=getD_set_ne false (Ne.symm hm)
   simp only[List.countP_singleton,h1]
   have:(i<m+1)=(i<m):=by simp;omega
   simp only[this]
   omega
theorem J6 (hFe:mH F)(hFm:jL F){ops:Array Oper}{pr:List (List Nat)}{ds:List bK}(hp:ol ops.toList pr=true)(hcm:yt pr ds=true)(hl:ops.size=ds.length)
  (hc:∀ (i:Nat) (o:Oper),ops[i]?=some o→∃ (d:bK) (bx:Bool) (po:Nat) (lm:Bool),ds[i]?=some d∧sH num P n ops.toList bx po lm o=some d) {Q':Exit→Act→World→Prop} {Qd:Env→ad→Prop} :
  ∀ (fuel:Nat) (listed:Array Bool) {X:Ctx} {env:Env} {act:Act},listed.size=ops.size→(∃ r,r≤fuel∧(List.range ops.size).countP (fun i => !listed.getD i false)≤r)→KW ops listed→Rel φ n bs X env act→az F (rest listed 0 ds) Qd env X.h →
   (∀ env' X' act',Le X X'→Rel φ n bs X' env' act'→Qd env' X'.h→Q' .normal act' X'.w)→wpAnyIn (fc r) 0 P .any ops Q' fuel listed act X.w:=by
 -- nothing is ready: nothing is left
 have hdone:∀ (listed:Array Bool),listed.size=ops.size→Region.ready .any ops listed=[]→rest listed 0 ds=[]:=by
  intro listed hls hr
  have key:∀ i,i<ops.size→listed.getD i false=true:=by
   intro i
   induction i using Nat.strongRecOn with
   | _ i ih =>
    intro hi
    cases hli:listed.getD i false with
    | true=>rfl
    | false =>
     exfalso
     have:i∈Region.ready .any ops listed:=by
      rw[mem_ready]
      refine⟨?_,ops[i],Array.getElem?_eq_getElem hi,fun e he hb=>?_⟩
      ·rw[← hli];simp[Array.getD,show i<listed.size by omega]
      ·have hdi:e.on∈oI ops[i]:=List.mem_map.2 ⟨e,List.mem_filter.2 ⟨by simpa using he,hb⟩,rfl⟩
       unfold ol at hp
       rw[List.all_eq_true]at hp
       have h1:=hp i (List.mem_range.2 (by simpa using hi))
       rw[show ops.toList[i]?=some ops[i] by simp[hi]]at h1
       simp only[Bool.and_eq_true,List.all_eq_true,decide_eq_true_eq]at h1
       have hlt:=h1.1 _ hdi
       exact ih _ hlt Ll
     rw[hr]at this
     simp at this
  have:∀ (l:List bK) (i:Nat),i+l.length≤ops.size→rest listed i l=[]:=by
   intro l
   induction l with
   | nil=>intro i _;rfl
   | cons x l ih =>
    intro i hi
    simp only[List.length_cons]at hi
    simp only[rest,key i Ll,if_true]
    exact ih (i+1) Ll
  exact this ds 0 Ll
 intro fuel
 induction fuel with
 | zero =>
  intro listed X env act hls hcnt hd hR hw hQ
  have hr:Region.ready .any ops listed=[]:=by
   obtain⟨r,hr0,hr1⟩:=hcnt
   have hz:(List.range ops.size).countP (fun i => !listed.getD i false)=0:=by omega
   rw[List.countP_eq_zero]at hz
   apply List.eq_nil_iff_forall_not_mem.2
   intro i hi
   rw[mem_ready]at hi
   obtain⟨h0,o,ho,_⟩:=hi
   have hlt:i<ops.size:=(Array.getElem?_eq_some_iff.1 ho).1
   have:=hz i (List.mem_range.2 hlt)
   simp at this
   rw[Array.getD,dif_pos Ll]at h0
   simp[show i<listed.size by omega]at this
   simp_all
  unfold wpAnyIn
  refine⟨hr,hQ _ X _ (.refl X) hR ?_⟩
  rw[hdone listed hls hr]at hw
  exact hw
 | succ fuel ih =>
  intro listed X env act hls hcnt hd hR hw hQ
  unfold wpAnyIn
  refine⟨fun hr=>hQ _ X _ (.refl X) hR (by rw[hdone listed hls hr]at hw;exact hw),fun i hi=>?_⟩
  rw[mem_ready]at hi
  obtain⟨h0,o,ho,hall⟩:=hi
  have hlt:i<ops.size:=(Array.getElem?_eq_some_iff.1 ho).1
  have h0':listed.getD i false=false:=by
   rw[Array.getD_eq_getD_getElem?,Array.getElem?_eq_getElem (show i<listed.size by omega)]at h0 ⊢
   simpa using h0
  have hdir:∀ j∈oI o,listed.getD j false=true:=fun j hj=>by
   obtain⟨e,he,rfl⟩:=List.mem_map.1 hj
   obtain⟨he1,he2⟩:=List.mem_filter.1 he
   exact hall e (by simpa using he1) he2
  obtain⟨d,bx,po,lm,hdi,hco⟩:=hc i o ho
  obtain⟨L1,L2,s1,s2,s3⟩:=tX (listed:=listed) (ds:=ds) (i:=0) (k:=i) (d:=d) hdi (by rw[Nat.zero_add];exact h0') Ll
  rw[Nat.zero_add]at s2
  rw[s1]at hw
  have hmove:=uo hFe hFm L1 (fun x hx=>by
   obtain⟨j,j1,j2,j3⟩:=s3 x hx
   rw[Nat.zero_add]at j3
   unfold yt at hcm
   rw[List.all_eq_true]at hcm
   have h1:=hcm i (List.mem_range.2 Ll)
   rw[List.all_eq_true]at h1
   have h2:=h1 j (List.mem_range.2 j1)
   rw[Bool.or_eq_true]at h2
   rcases h2 with h2|h2
   ·have:=xT hp hd i o ho hdir j (by simpa using h2)
    rw[j3]at this
    cases this
   ·rw[j2,hdi]at h2
    exact h2) hw
  refine F3 hn hE hF hR ho hco (show cz F d (az F (L1++L2) Qd) env X.h from hmove) fun env' X' act' hle hR' hq=>?_
  refine ih (listed.setIfInBounds i true) (by simpa using hls) ?_ ?_ hR' (by rw[s2];exact hq) (fun e2 X2 a2 hle2 hR2 hq2=>hQ e2 X2 a2 (hle.trans hle2) hR2 hq2)
  ·obtain⟨r,hr0,hr1⟩:=hcnt
   refine⟨fuel,Nat.le_refl _,?_⟩
   have hcs:=CD (show i<listed.size by omega) h0' ops.size
   rw[if_pos hlt]at hcs
   omega
  ·intro k ok hok hlk j hj
   by_cases hki:k=i
   ·subst hki
    rw[ho]at hok
    injection hok with hok
    subst hok
    exact getD_set_true (hdir j hj)
   ·rw[getD_set_ne false (Ne.symm hki)]at hlk
    exact getD_set_true (hd k ok hok hlk j hj)
end
end
section
open Go
section
variable {r:Option Nat} {φ:Phi} {num:FuncId→Option Nat} {P:Program} {X:Ctx} {n bs:Nat} {env:Env} {act:Act} {F:bZ}
def lH:Exit→Option Ex
 | .normal=>some .norm
 | .exit id=>some (.exit id)
 | .ret=>some .ret
 | _=>none
def oR (φ:Phi)(n bs:Nat)(X:Ctx)(Q:Ex→Env→ad→Prop)(e:Exit)(a:Act)(w:World):Prop :=
 ∃ ex env' X',lH e=some ex∧X'.w=w∧Le X X'∧Rel φ n bs X' env' a∧Q ex env' X'.h
theorem oR.mono {X0:Ctx}{Q Q':Ex→Env→ad→Prop}(hle:Le X0 X)(hq:∀ ex e h,Q ex e h→Q' ex e h){e:Exit}{a:Act}{w:World}(h:oR φ n bs X Q e a w):oR φ n bs X0 Q' e a w:=by
 obtain⟨ex,env',X',h1,h2,h3,h4,h5⟩:=h
 exact⟨ex,env',X',h1,h2,hle.trans h3,h4,hq _ _ _ h5⟩
theorem JE (hR:Rel φ n bs X env act){K:Env→ad→Prop}(hw:wfz K env X.h):∃ env' X',X'.w=X.w∧Le X X'∧Rel φ n bs X' env' act∧K env' X'.h:=by
 rcases hw with hw|⟨S,env',hf,hw⟩
 ·exact⟨env,X,rfl,.refl X,hR,hw⟩
 ·obtain⟨hle,hok,hS⟩:=qh hR.heap S
  exact⟨env',X.frz S,rfl,hle,{ hR.le hle hok with tmps:=fun t=>(hf t).vt hR.heap (hR.tmps t) },hw⟩
def I9 (r:Option Nat)(P:Program)(c:Code)(Q:Exit→Act→World→Prop)(a:Act)(w:World):Prop :=
 ∀ (b:Frame) (k:List Item) (cs:List Frame),b.roundOf=(fc r).round→(fc r).fn b.fn→(fc r).room (cs.length+1+0) →
  ∃ e a' w',Q e a' w'∧ArrivesIn (Machine.fenced P (fc r)) P (lone (b.atR a (.code c :: .inLoop c::k)) cs w) b k cs e a' w'
theorem xj {c:Code}{Q:Exit→Act→World→Prop}{a:Act}{w:World}(h:I9 r P c Q a w):(Code.loop c).wpIn (fc r) 0 P Q a w:=fun b k cs hro hb hr =>
 let ⟨e,a',w',hq,harr⟩:=h b k cs hro hb hr
 ⟨e,a',w',hq,.of_steps (.one (fenced_calm hb hr rfl) stepR_loop) harr⟩
theorem AM {c:Code}{Q:Exit→Act→World→Prop}{a:Act}{w:World}(h:c.wpIn (fc r) 0 P (Exit.then (I9 r P c Q) Q) a w):I9 r P c Q a w:=by
 intro b k cs hro hb hr
 obtain⟨e,a₁,w₁,hq,harr⟩:=h b (.inLoop c::k) cs hro hb hr
 cases e with
 | normal =>
  obtain⟨e₂,a₂,w₂,hq₂,harr₂⟩:=hq b k cs hro hb hr
  exact⟨e₂,a₂,w₂,hq₂,.of_steps (StepsIn.trans harr (.one (fenced_calm hb hr rfl) stepR_inLoop)) harr₂⟩
 | exit id=>exact⟨_,a₁,w₁,hq,.pass (x := .inLoop c) rfl (fun _ _ => .inl Lm) harr⟩
 | goto l=>exact⟨_,a₁,w₁,hq,.pass (x := .inLoop c) rfl (fun _ _ => .inl Lm) harr⟩
 | ret=>exact⟨_,a₁,w₁,hq,.pass (x := .inLoop c) rfl (fun _ _ => .inl Lm) harr⟩
 | panic ch=>exact⟨_,a₁,w₁,hq,.pass (x := .inLoop c) rfl (fun _ _ => .inl Lm) harr⟩
 | outgrown=>exact⟨_,a₁,w₁,hq,.pass (x := .inLoop c) rfl (fun _ _ => .inl Lm) harr⟩
theorem jV {b:Frame}{a:Act}{k:List Item}{cs:List Frame}{w:World}{c:Code}:step P (lone (b.atR a (.code (.scope c)::k)) cs w) = .next (lone (b.atR a (.code c :: .inScope c::k)) cs w) :=
 step_lone_go (by simp[stepG,stepG.exec,Frame.atR])
theorem vg {b:Frame}{a:Act}{k:List Item}{cs:List Frame}{w:World}{c:Code}:step P (lone (b.atR a (.inScope c::k)) cs w) = .next (lone (b.atR a k) cs w) :=
 step_lone_go (by simp[stepG,stepG.exec,Frame.atR])
theorem pz {c:Code}{Q:Exit→Act→World→Prop}{a:Act}{w:World}(h:c.wpIn (fc r) 0 P (Exit.noGoto Q) a w):(Code.scope c).wpIn (fc r) 0 P Q a w:=by
 intro b k cs hro hb hr
 obtain⟨e,a₁,w₁,hq,harr⟩:=h b (.inScope c::k) cs hro hb hr
 have h0:=fenced_calm (P:=P) (fr:=b.atR a (.code (.scope c)::k)) (w:=w) hb hr rfl
 cases e with
 | normal=>exact⟨.normal,a₁,w₁,hq,.head h0 jV (StepsIn.trans harr (.one (fenced_calm hb hr rfl) vg))⟩
 | exit id =>
  have hx:exitTo id (.inScope c::k)=exitTo id k:=by simp[exitTo]
  exact⟨.exit id,a₁,w₁,hq,fun k' hk => .head h0 jV (harr.1 k' (by rw[hx];exact hk)),fun hr' hk=>let ⟨k₁,h1,h2⟩:=harr.2 hr' (by rw[hx];exact hk);⟨k₁,h1,.head h0 jV h2⟩⟩
 | goto l=>exact hq.elim
 | ret=>exact⟨_,a₁,w₁,hq,.of_steps (.one h0 jV) harr⟩
 | panic ch=>exact⟨_,a₁,w₁,hq,.of_steps (.one h0 jV) harr⟩
 | outgrown=>exact⟨_,a₁,w₁,hq,.of_steps (.one h0 jV) harr⟩
theorem VRs.ofVCs:∀ {as:List AV} {vs:List Value},VCs φ X as vs→VRs φ X as vs
 | _,_,.nil => .nil
 | _,_,.cons a b => .cons (.one a) (VRs.ofVCs b)
theorem E0 {p:Ex}{c:Option Code}(h:p8 (some p) c):(p = .ret∧c=some .ret)∨∃ i,p = .exit i∧c=some (.exit i):=by
 unfold p8 at h
 split at h
 ·simp_all
 ·simp_all
 ·simp_all
 ·exact h.elim
theorem E1 {c:Option Code}(h:p8 none c):c=none:=by
 cases c
 ·rfl
 ·exact h.elim
variable (hz:∀ m c d,φ.code m c d↔(ji num P m c=some d∧ey c=true)) (hm:P.follows .mixedOrders=true) (hn:∀ f k,num f=some k→φ k=some f) (hE:qt φ P) (hF:FOk φ P F) (hFe:mH F) (hFm:jL F)
include hz hm hn hE hF hFe hFm
omit hm hn hE hFe hFm in
theorem GJ {t:Tmp}{ps:Array Tmp}{ca cb:Code}{da db:gk}(hca:ji num P n ca=some da)(hcb:ji num P n cb=some db)(hna:ey ca=true)(hnb:ey cb=true)(hps:∀ t∈ps.toList,t<n)
  (hE:qt φ P) {Q:Ex→Env→ad→Prop} (hR:Rel φ n bs X env act) (hw:bm F (.rangef (.tmp t) ps.toList da db) Q env X.h):(Code.rangeFunc (.tmp t) ps ca cb).wpIn (fc none) 0 P (oR φ n bs X Q) act X.w:=by
 unfold bm at hw
 split at hw
 rotate_left
 ·exact hw.elim
 rename_i g cap hx
 change env t=_ at hx
 have ht:VT φ X (env t) (act.eval (.tmp t)):=hR.tmps t
 rw[hx]at ht
 have hvc:=ht.vc rfl
 generalize hy:act.eval (.tmp t)=y at hvc
 cases hvc with
 | fn hf hcap =>
  rename_i gid vs
  refine wpIn_rangeFunc fun fn _=>?_
  obtain⟨t1,t2⟩:=hR.heap.grow (w':=X.w.alloc (.deferred (some []))) Lm (fun B hB=>heap_alloc_old _ _ hB) rfl rfl
  obtain⟨R,hRec⟩:∃ R:Loop,R={ state := .ready,pending:=none,fn,tmps:=act.tmps,params:=ps,assign:=ca,body:=cb,defers:=X.w.heap.size }:=⟨_,rfl⟩
  have hRn:R.tmps=act.tmps∧R.params=ps∧R.assign=ca∧R.body=cb∧R.state = .ready∧R.pending=none:=by rw[hRec];exact⟨rfl,rfl,rfl,rfl,rfl,rfl⟩
  have hup:=t2.updateLoop (id:=X.w.heap.size+1) (st' := .ready) (p':=none) (env':=env) (ps':=ps.toList) (a':=da) (b':=db) (B:=X.w.heap.size+1) (w':=(X.w.alloc (.deferred (some []))).alloc (.loop R)) (R':=R)
   Lm rfl rfl (fun i hi _=>heap_alloc_old _ _ hi) (by have:=heap_alloc_new (X.w.alloc (.deferred (some []))) (.loop R);simpa using this) Lm (.inr ⟨by simp,by simp⟩)
   hRn.2.2.2.2.1 (by rw[hRn.2.2.2.2.2];trivial) (by rw[hRn.2.1]) (fun t=>by rw[hRn.1];exact(hR.tmps t).le t1) ⟨n,by rw[hRn.1];exact hR.size,hps,by rw[hRn.2.2.1];exact(hz _ _ _).2 ⟨hca,hna⟩,by rw[hRn.2.2.2.1];exact(hz _ _ _).2 ⟨hcb,hnb⟩⟩
  obtain⟨u1,u2⟩:=hup
  have hnone:X.h.get (X.w.heap.size+1)=none:=by
   cases e:X.h.get (X.w.heap.size+1) with
   | none=>rfl
   | some o=>exact absurd (hR.heap.ids _ _ e) Ll
  obtain⟨X1,hX1⟩:∃ X1:Ctx,X1=⟨fun i=>if i=X.w.heap.size+1 then some (X.w.heap.size+1,0) else X.κ i,X.h.set (X.w.heap.size+1) (.loop .ready none env ps.toList da db),(X.w.alloc (.deferred (some []))).alloc (.loop R),X.M⟩:=⟨_,rfl⟩
  have hw1:X1.w=(X.w.alloc (.deferred (some []))).alloc (.loop R):=by rw[hX1]
  have hκ1:X1.κ (X.w.heap.size+1)=some (X.w.heap.size+1,0):=by rw[hX1];simp
  have hh1:X1.h=X.h.set (X.w.heap.size+1) (.loop .ready none env ps.toList da db):=by rw[hX1]
  have hD1:X1.w.heap[X.w.heap.size]?=some (.deferred (some [])):=by
   rw[hw1,heap_alloc_old _ _ Lm]
   exact heap_alloc_new _ _
  have hDM:¬ X1.Mut X.w.heap.size:=by
   rintro(h|⟨i,base,h⟩)
   ·rw[hX1]at h
    exact absurd (hR.heap.mine _ h) (Nat.lt_irrefl _)
   ·rw[hX1]at h
    dsimp only at h
    split at h
    ·injection h with h;injection h with h _;omega
    ·exact absurd (hR.heap.dom _ _ _ h).1 (Nat.lt_irrefl _)
  rw[← hX1]at u1 u2
  have hcall:=hF.fn _ _ _ _ (hw (X.w.heap.size+1) hnone) X1 (.func (.yield (X.w.heap.size+1)) #[] #[]::vs) gid hh1 u2 (.cons (.one (.yield (by rw[hw1];simp) (fun st p env ps a b e=>hκ1))) (VRs.ofVCs ((hcap.le t1).le u1))) hf
  refine⟨X.w.heap.size+1,[{ target := .collected X.w.heap.size,args:=#[] }],X1.w,{ target := .fn (.func gid) vs.toArray,args:=#[.func (.yield (X.w.heap.size+1)) #[] #[]] },X1.w,gid,(.func (.yield (X.w.heap.size+1)) #[] #[]::vs).toArray,X1.w,?_,?_,fun _ _=>trivial,?_,fun h=>by simp[fc,Fence.wide]at h,qn (hcall.mono ?_)⟩
  ·rw[hw1,hRec]
   exact run_enterLoop_outer _ _ _ _ _
  ·simp only[resolve,rangeCall,hy]
   simp[Deferred.ofValue,Act.eval]
  ·simp only[invoke]
   rw[nB hE hf]
   congr 2
   apply Array.toList_inj.1
   simp
  ·rintro e w' ⟨v,v',X2,rfl,rfl,hle,hok,hvt,hend⟩
   unfold mz at hend
   split at hend
   rotate_left
   ·exact hend.elim
   rename_i st pend env2 ps2 a2 b2 hg2
   obtain⟨hst,hnn,hq⟩:=hend
   obtain⟨B,k1,⟨R2,k2,k3,k4,k5,k6,k7⟩⟩:=hok.loops _ _ _ _ _ _ _ hg2
   have hκ2:=(hle.loop _ (by rw[hw1];simp) _ _ _ _ _ _ hg2).2
   rw[hκ1,k1]at hκ2
   injection hκ2 with hκ2
   injection hκ2 with hκ2 _
   subst hκ2
   have hBlt:=(Array.getElem?_eq_some_iff.1 k2).1
   have hupd:=hok.updateLoop (id:=X.w.heap.size+1) (st' := .exhausted) (p':=pend) (env':=env2) (ps':=ps2) (a':=a2) (b':=b2) (B:=X.w.heap.size+1) (w':=X2.w.putObj (X.w.heap.size+1) (.loop { R2 with state := .exhausted })) (R':={ R2 with state := .exhausted })
    (by simp[World.putObj]) rfl rfl (fun i hi hne=>World.putObj_heap_other hne) (World.putObj_heap_same hBlt) (by simpa[World.putObj] using hok.ids _ _ hg2) (.inl ⟨_,_,_,_,_,_,R2,hg2,k1,k2⟩) rfl k4 k5 k6 k7
   obtain⟨v1,v2⟩:=hupd
   obtain⟨f1,f2,_⟩:=qh v2 (fun i=>i=X.w.heap.size+1)
   generalize hX3:Ctx.frz _ (fun i=>i=X.w.heap.size+1)=X3 at f1 f2
   have hw3:X3.w=X2.w.putObj (X.w.heap.size+1) (.loop { R2 with state := .exhausted }):=by rw[← hX3];rfl
   have hh3:X3.h=X2.h.drop (fun i=>i=X.w.heap.size+1):=by
    rw[← hX3]
    apply ad.ext'
    funext i
    simp only[Ctx.frz,ad.drop,ad.set]
    split<;>simp_all
   have hle3:Le X X3:=(t1.trans u1).trans (hle.trans (v1.trans f1))
   have hle13:Le X1 X3:=hle.trans (v1.trans f1)
   have hR3:Rel φ n bs X3 env { act with defers:=[{ target := .collected X.w.heap.size,args:=#[] }]++act.defers }:=by
    have h0:=hR.le hle3 f2
    refine { h0 with defers:=fun d hd=>?_,apart:=?_ }
    ·simp only[List.singleton_append,List.mem_cons]at hd
     rcases hd with rfl|hd
     ·have hDlt:=(Array.getElem?_eq_some_iff.1 hD1).1
      exact⟨X.w.heap.size,rfl,hR.base,(hle13.kept _ hDlt fun i base e=>hDM (.inr ⟨i,base,e⟩)).trans hD1,hle13.not_mut hDlt hDM⟩
     ·exact h0.defers d hd
    ·simp only[List.singleton_append,List.nodup_cons]
     refine⟨fun hm=>?_,hR.apart⟩
     obtain⟨D,e1,_,e3,_⟩:=hR.defers _ hm
     have:=(Array.getElem?_eq_some_iff.1 e3).1
     simp at e1
     omega
   refine⟨R2.pending,X3.w,?_,?_⟩
   ·rw[hw3]
    exact run_endLoop k2 (by rw[k3];exact hst)
   ·cases pend with
    | none =>
     rw[E1 k4]
     exact⟨.norm,env,X3,rfl,rfl,hle3,hR3,by rw[hh3];exact hq⟩
    | some ex =>
     rcases E0 k4 with⟨rfl,e⟩|⟨i,rfl,e⟩
     ·rw[e]
      exact wpIn_ret ⟨.ret,env,X3,rfl,rfl,hle3,hR3,by rw[hh3];exact hq⟩
     ·rw[e]
      exact wpIn_exit ⟨.exit i,env,X3,rfl,rfl,hle3,hR3,by rw[hh3];exact hq⟩
theorem lJ:∀ (c:Code) {d:gk},ji num P n c=some d→(r=none∨ey c=true)→∀ {X:Ctx} {env:Env} {act:Act} {Q:Ex→Env→ad→Prop},Rel φ n bs X env act→bm F d Q env X.h→c.wpIn (fc r) 0 P (oR φ n bs X Q) act X.w
 | .skip,d,hc,hnr,X,env,act,Q,hR,hw=>by
  injection hc with hc;subst hc
  exact wpIn_skip ⟨.norm,env,X,rfl,rfl,.refl X,hR,hw⟩
 | .label l,d,hc,hnr,X,env,act,Q,hR,hw=>by
  injection hc with hc;subst hc
  exact wpIn_label ⟨.norm,env,X,rfl,rfl,.refl X,hR,hw⟩
 | .exit id,d,hc,hnr,X,env,act,Q,hR,hw=>by
  injection hc with hc;subst hc
  exact wpIn_exit ⟨.exit id,env,X,rfl,rfl,.refl X,hR,hw⟩
 | .ret,d,hc,hnr,X,env,act,Q,hR,hw=>by
  injection hc with hc;subst hc
  exact wpIn_ret ⟨.ret,env,X,rfl,rfl,.refl X,hR,hw⟩
 | .region id ops draw,d,hc,hnr,X,env,act,Q,hR,hw=>by
  simp only[ji,Option.map_eq_some_iff]at hc
  obtain⟨ds,hds,rfl⟩:=hc
  unfold CH at hds
  simp only[Option.bind_eq_some_iff]at hds
  obtain⟨ds',h1,hds⟩:=hds
  generalize (if draw=true then Co ops.toList else [])=pr at h1 hds
  split at hds
  ·rename_i hcond
   injection hds with hds;subst hds
   obtain⟨env1,X1,e1,hle1,hR1,hw1⟩:=JE hR (show wfz (fun env h=>az F ds' (fun env h=>Q .norm env h) env h) env X.h from hw)
   obtain⟨g1,g2⟩:=sG h1
   have hall:∀ (i:Nat) (o:Oper),ops[i]?=some o→∃ (d:bK) (bx:Bool) (po:Nat) (lm:Bool),ds'[i]?=some d∧sH num P n ops.toList bx po lm o=some d:=fun i o ho=>g2 i o (by simpa using ho)
   have hpost:∀ env' X' act',Le X1 X'→Rel φ n bs X' env' act'→Q .norm env' X'.h→oR φ n bs X Q .normal act' X'.w:=fun env' X' act' hle hR' hq=>⟨.norm,env',X',rfl,rfl,hle1.trans hle,hR',hq⟩
   rw[← e1]
   cases draw with
   | false =>
    refine wpIn_region (GM hn hE hF (List.range ops.size) ds' hR1 (fun k i hk=>?_) (by simpa using g1) hw1 hpost)
    have hlt:=(List.getElem?_eq_some_iff.1 hk).1
    simp only[List.length_range]at hlt
    rw[List.getElem?_range hlt]at hk
    injection hk with hk;subst hk
    obtain⟨d,av,po,lm,q1,q2⟩:=hall k ops[k] (Array.getElem?_eq_getElem hlt)
    exact⟨ops[k],d,av,po,lm,Array.getElem?_eq_getElem hlt,q1,q2⟩
   | true =>
    have hcond:=hcond.resolve_left Lm
    rw[Bool.and_eq_true]at hcond
    refine wpIn_region_any hm ?_
    obtain⟨t1,t2⟩:=hR1.heap.turn (w':={ X1.w with drawn:=X1.w.drawn+1 }) rfl rfl rfl
    have hR2:=hR1.le t1 t2
    have hfalse:∀ i,(Array.replicate ops.size false).getD i false=false:=fun i=>by
     rw[Array.getD_eq_getD_getElem?]
     by_cases hi:i<ops.size<;>simp[hi]
    have hrest:∀ (l:List bK) (i:Nat),rest (Array.replicate ops.size false) i l=l:=by
     intro l
     induction l with
     | nil=>intro _;rfl
     | cons x l ih=>intro i;simp only[rest,hfalse,Bool.false_eq_true,if_false,ih]
    refine J6 hn hE hF hFe hFm hcond.1 hcond.2 (by simpa using g1) hall ops.size (Array.replicate ops.size false) (X:={ X1 with w:={ X1.w with drawn:=X1.w.drawn+1 } }) Lm ⟨ops.size,Nat.le_refl _,?_⟩ ?_ hR2 (by rw[hrest];exact hw1) ?_
    ·refine Nat.le_trans (List.countP_le_length) ?_
     simp
    ·intro i o _ hl
     rw[hfalse]at hl
     cases hl
    ·exact fun env' X' act' hle hR' hq=>hpost env' X' act' (t1.trans hle) hR' hq
  ·cases hds
 | .seq a b,d,hc,hnr,X,env,act,Q,hR,hw=>by
  simp only[ji,Option.bind_eq_some_iff,Option.map_eq_some_iff]at hc
  obtain⟨da,ha,db,hb,rfl⟩:=hc
  refine wpIn_seq (wpIn_mono (lJ a ha (hnr.imp (fun h=>h) fun h=>by simp[ey]at h;exact h.1) hR hw) ?_)
  rintro e a' w' ⟨ex,env',X',h1,rfl,h3,h4,h5⟩
  cases e<;>simp only[lH]at h1<;>try (cases h1;done)
  ·injection h1 with h1;subst h1
   exact wpIn_mono (lJ b hb (hnr.imp (fun h=>h) fun h=>by simp[ey]at h;exact h.2) h4 h5) fun e a w h=>h.mono h3 (fun _ _ _ h=>h)
  ·injection h1 with h1;subst h1
   exact⟨_,env',X',rfl,rfl,h3,h4,h5⟩
  ·injection h1 with h1;subst h1
   exact⟨_,env',X',rfl,rfl,h3,h4,h5⟩
 | .cond c a b,d,hc,hnr,X,env,act,Q,hR,hw=>by
  simp only[ji,Option.bind_eq_some_iff,Option.map_eq_some_iff]at hc
  obtain⟨dc,hdc,da,ha,db,hb,rfl⟩:=hc
  have h1:=hR.ev hn hdc
  unfold bm at hw
  split at hw
  ·rename_i t ht
   rw[ht]at h1
   refine wpIn_cond h1.bool ?_
   cases t with
   | true=>exact lJ a ha (hnr.imp (fun h=>h) fun h=>by simp[ey]at h;exact h.1) hR (by simpa using hw)
   | false=>exact lJ b hb (hnr.imp (fun h=>h) fun h=>by simp[ey]at h;exact h.2) hR (by simpa using hw)
  ·exact hw.elim
 | .block id c,d,hc,hnr,X,env,act,Q,hR,hw=>by
  simp only[ji,Option.map_eq_some_iff]at hc
  obtain⟨dc,hdc,rfl⟩:=hc
  refine wpIn_block (wpIn_mono (lJ c hdc (hnr.imp (fun h=>h) fun h=>by simpa[ey] using h) hR hw) ?_)
  rintro e a' w' ⟨ex,env',X',h1,rfl,h3,h4,h5⟩
  cases e<;>simp only[lH]at h1<;>try (cases h1;done)
  ·injection h1 with h1;subst h1
   exact⟨_,env',X',rfl,rfl,h3,h4,h5⟩
  ·injection h1 with h1;subst h1
   rename_i j
   simp only[Exit.inBlock]at h5 ⊢
   by_cases hj:j=id
   ·rw[if_pos hj]at h5 ⊢
    exact⟨_,env',X',rfl,rfl,h3,h4,h5⟩
   ·rw[if_neg hj]at h5 ⊢
    exact⟨_,env',X',rfl,rfl,h3,h4,h5⟩
  ·injection h1 with h1;subst h1
   exact⟨_,env',X',rfl,rfl,h3,h4,h5⟩
 | .scope c,d,hc,hnr,X,env,act,Q,hR,hw=>by
  refine pz (wpIn_mono (lJ c hc (hnr.imp (fun h=>h) fun h=>by simpa[ey] using h) hR hw) ?_)
  rintro e a' w' ⟨ex,env',X',h1,rfl,h3,h4,h5⟩
  cases e<;>simp only[lH]at h1<;>try (cases h1;done)
  all_goals (injection h1 with h1;subst h1;exact⟨_,env',X',rfl,rfl,h3,h4,h5⟩)
 | .loop c,d,hc,hnr,X,env,act,Q,hR,hw=>by
  simp only[ji,Option.map_eq_some_iff]at hc
  obtain⟨dc,hdc,rfl⟩:=hc
  refine xj ?_
  unfold bm at hw
  refine hw (fun env h=>∀ X' act',X'.h=h→Le X X'→Rel φ n bs X' env act'→I9 r P c (oR φ n bs X Q) act' X'.w) (fun env h hh X1 act1 e1 hle1 hR1=>?_) X act rfl (.refl X) hR
  subst e1
  refine AM (wpIn_mono (lJ c hdc (hnr.imp (fun h=>h) fun h=>by simpa[ey] using h) hR1 hh) ?_)
  rintro e a' w' ⟨ex,env',X',h1,rfl,h3,h4,h5⟩
  cases e<;>simp only[lH]at h1<;>try (cases h1;done)
  ·injection h1 with h1;subst h1
   exact h5 X' a' rfl (hle1.trans h3) h4
  ·injection h1 with h1;subst h1
   exact⟨_,env',X',rfl,rfl,hle1.trans h3,h4,h5⟩
  ·injection h1 with h1;subst h1
   exact⟨_,env',X',rfl,rfl,hle1.trans h3,h4,h5⟩
 | .rangeFunc f ps a b,d,hc,hnr,X,env,act,Q,hR,hw=>by
  simp only[ji]at hc
  split at hc
  ·rename_i hcond
   simp only[Bool.and_eq_true,List.all_eq_true,decide_eq_true_eq]at hcond
   split at hc
   ·rename_i t
    simp only[Option.bind_eq_some_iff,Option.map_eq_some_iff]at hc
    obtain⟨da,ha,db,hb,rfl⟩:=hc
    rcases hnr with rfl|hnr
    ·exact GJ hz hF ha hb hcond.1.1 hcond.1.2 hcond.2 hE hR hw
    ·simp[ey]at hnr
   ·cases hc
  ·cases hc
 | .goto _,d,hc,_,_,_,_,_,_,_=>by cases hc
 | .refuse _,d,hc,_,_,_,_,_,_,_=>by cases hc
end
end
section
open Go
section
variable {φ:Phi} {num:FuncId→Option Nat} {P:Program} {X:Ctx} {n bs:Nat} {env:Env} {act:Act} {F:bZ}
def tY (tmps:Array Value):ResultVar→Sem Value
 | .tmp t=>pure (tmps.getD t undef)
 | .cell a t=>do loadVar t (← asAddr (tmps.getD a undef))
theorem o5 (hR:Rel φ n bs X env act):∀ {rv:List ResultVar} {rs:List vP},yz P rv=some rs→∀ {vs:List AV},rs.mapM (lY env X.h)=some vs →
  ∃ ws:List Value,(rv.mapM (tY act.tmps)).run P X.w = .ok ws X.w∧ws.length=vs.length∧∀ (i:Nat) (v:AV),vs[i]?=some v→∃ w,ws[i]?=some w∧VT φ X v w
 | [],rs,hc,vs,hv=>by
  simp only[yz,Option.some.injEq]at hc
  subst hc
  simp at hv
  subst hv
  exact⟨[],by simp,rfl,fun i v h=>by simp at h⟩
 | .tmp t::r,rs,hc,vs,hv=>by
  simp only[yz,Option.map_eq_some_iff]at hc
  obtain⟨rs',h1,rfl⟩:=hc
  simp only[List.mapM_cons,lY,Option.bind_eq_bind,Option.bind_some,Option.pure_def,Option.bind_eq_some_iff,Option.some.injEq]at hv
  obtain⟨us,h2,rfl⟩:=hv
  obtain⟨ws,g1,g2,g3⟩:=o5 hR h1 h2
  refine⟨act.tmps.getD t undef::ws,?_,by simp[g2],fun i v h=>?_⟩
  ·simp[List.mapM_cons,g1,tY]
  ·cases i with
   | zero=>simp at h;subst h;exact⟨_,rfl,hR.tmps t⟩
   | succ i=>simpa using g3 i v (by simpa using h)
 | .cell a t::r,rs,hc,vs,hv=>by
  simp only[yz,Option.bind_eq_some_iff,Option.map_eq_some_iff]at hc
  obtain⟨ag,ha,sz,hs,rs',h1,rfl⟩:=hc
  simp only[List.mapM_cons,Option.bind_eq_bind,Option.pure_def,Option.bind_eq_some_iff,Option.some.injEq]at hv
  obtain⟨u,hu,us,h2,rfl⟩:=hv
  obtain⟨ws,g1,g2,g3⟩:=o5 hR h1 h2
  simp only[lY]at hu
  generalize hm:(if ag then sz else 1)=m at hu
  split at hu
  ·rename_i id g off he
   split at hu
   ·rename_i g' cs hcs
    split at hu
    ·rename_i hcond
     obtain⟨rfl,hl⟩:=hcond
     injection hu with hu
     have ht:=hR.tmps a
     rw[he]at ht
     obtain⟨B,base,C,T,xs,e1,k1,k2,k3,k4,k5⟩:=VC.ptrOk hR.heap (ht.vc rfl) hcs
     have hlen:=k4.length
     subst hm
     obtain⟨v',r1,r2⟩:=lW (P:=P) (X:=X) (φ:=φ) (t:=t) (a:=⟨B,base+off,none⟩) (cs:=cs.drop off) (vs:=xs.drop off) ha hs rfl (k4.drop off) (by simp;omega) (fun j w hj=>by
      rw[List.getElem?_drop]at hj
      rw[oN k2,Nat.add_assoc]
      exact k5 _ _ hj)
     refine⟨v'::ws,?_,by simp[g2],fun i v h=>?_⟩
     ·rw[Array.getD_eq_getD_getElem?]at e1
      simp only[List.mapM_cons]
      simp[tY,e1,asAddr,r1,g1]
     ·cases i with
      | zero =>
       simp at h
       subst h
       refine⟨v',rfl,?_⟩
       rw[← hu]
       have:(if ag=true then AV.agg ((cs.drop off).take (if ag=true then sz else 1)) else cs.getD off .undef)=part ag 0 (if ag=true then sz else 1) (cs.drop off):=by
        cases ag
        ·simp[part,List.getD_eq_getElem?_getD]
        ·simp[part]
       rw[this]
       exact r2
      | succ i=>simpa using g3 i v (by simpa using h)
    ·cases hu
   ·cases hu
  ·cases hu
theorem VT.vr {a:AV}{v:Value}(h:VT φ X a v)(ha:a.isTup=false):VR φ X a v:=by
 cases h with
 | one h=>exact h
 | tup h=>simp[AV.isTup]at ha
theorem A7 (hR:Rel φ n bs X env act){fn:Func}{rs:List vP}(hc:yz P fn.results.toList=some rs){v:AV}(hv:fm env X.h rs=some v):∃ v',(results fn act.tmps).run P X.w = .ok v' X.w∧VT φ X v v':=by
  have harr:∀ ws:List Value,(fn.results.toList.mapM (tY act.tmps)).run P X.w = .ok ws X.w →
      (results fn act.tmps).run P X.w = .ok (if h:ws.toArray.size=1 then ws.toArray[0] else .tuple ws.toArray) X.w:=fun ws hws=>by
    have e:results fn act.tmps=(do
      let vs ← fn.results.mapM (tY act.tmps)
      pure (if h:vs.size=1 then vs[0] else .tuple vs)):=by
      unfold results
      congr 1
    rw[e]
    have e2:fn.results=fn.results.toList.toArray:=by simp
    rw[e2,List.mapM_toArray]
    simp[hws]
  have hmany:∀ {vs:List AV},rs.mapM (lY env X.h)=some vs→vs.length≠1→vs.all (fun x => !x.isTup)=true→∃ v',(results fn act.tmps).run P X.w = .ok v' X.w∧VT φ X (.tup vs) v':=by
    intro vs h1 hl hall
    obtain⟨ws,g1,g2,g3⟩:=o5 hR hc h1
    refine⟨.tuple ws.toArray,?_,?_⟩
    · rw[harr ws g1,dif_neg (by simp;omega)]
    · refine .tup ?_
      clear g1 h1 harr hv hc hl
      induction vs generalizing ws with
      | nil =>
        have:ws=[]:=List.eq_nil_of_length_eq_zero (by simpa using g2)
        subst this
        exact .nil
      | cons v vs ih =>
        cases ws with
        | nil=>simp at g2
        | cons w ws =>
          simp only[List.all_cons,Bool.and_eq_true]at hall
          obtain⟨w',e1,e2⟩:=g3 0 v rfl
          simp at e1
          subst e1
          exact .cons (e2.vr (by simpa using hall.1)) (ih hall.2 ws (by simpa using g2) fun i v h=>by simpa using g3 (i+1) v (by simpa using h))
  unfold fm at hv
  split at hv
  · rename_i r
    have h1:[r].mapM (lY env X.h)=some [v]:=by simp[List.mapM_cons,hv]
    obtain⟨ws,g1,g2,g3⟩:=o5 hR hc h1
    obtain⟨w,e1,e2⟩:=g3 0 v rfl
    refine⟨w,?_,e2⟩
    rw[harr ws g1,dif_pos (by simpa using g2)]
    congr 1
    have:ws.toArray[0]?=some w:=by simpa using e1
    rw[Array.getElem?_eq_some_iff]at this
    exact this.2
  · rename_i hne
    simp only[Option.bind_eq_some_iff]at hv
    obtain⟨vs,h1,hv⟩:=hv
    split at hv
    · rename_i hall
      injection hv with hv;subst hv
      refine hmany h1 (fun hl=>?_) hall
      have hlen:rs.length=vs.length:=by
        clear hc harr hmany hne hall hl
        induction rs generalizing vs with
        | nil=>simp at h1;subst h1;rfl
        | cons r rs ih =>
          simp only[List.mapM_cons,Option.bind_eq_bind,Option.pure_def,Option.bind_eq_some_iff,Option.some.injEq]at h1
          obtain⟨u,_,us,h2,rfl⟩:=h1
          simp[ih us h2]
      match rs,hlen with
      | [r],_=>exact hne r rfl
      | [],h=>simp at h;omega
      | _::_::_,h=>simp at h;omega
    · cases hv
structure u0 (X Y:Ctx):Prop where
 κ:Y.κ=X.κ
 h:Y.h=X.h
 M:Y.M=X.M
 size:Y.w.heap.size=X.w.heap.size
 cell:∀ a,Y.w.cell? a=X.w.cell? a
 obj:∀ (B:Nat) (o:Obj),X.w.heap[B]?=some o→(∀ x,o ≠ .deferred x)→Y.w.heap[B]?=some o
theorem u0.mut {Y:Ctx}(l:u0 X Y)(B:Nat):Y.Mut B↔X.Mut B:=by
 unfold Ctx.Mut
 rw[l.κ,l.M]
mutual
theorem VC.like {Y:Ctx}(l:u0 X Y):∀ {a:AV} {v:Value},VC φ X a v→VC φ Y a v
  | _,_,.bool b => .bool b
  | _,_,.int k n => .int k n
  | _,_,.str s => .str s
  | _,_,.nilp => .nilp
  | _,_,.ptr hid hg => .ptr (by rw[l.size];exact hid) (by rw[l.h,l.κ];exact hg)
  | _,_,.rp ⟨r1,r2,r3,r4⟩ hc => .rp ⟨r1,by rw[l.size];exact r2,fun h=>r3 ((l.mut _).1 h),fun j v hj=>(l.cell _).trans (r4 j v hj)⟩ (hc.like l)
  | _,_,.rd hr hc hn hf => .rd (fun hne=>let ⟨a0,e,r1,r2,r3,r4⟩:=hr hne;⟨a0,e,r1,by rw[l.size];exact r2,fun h=>r3 ((l.mut _).1 h),fun j v hj=>(l.cell _).trans (r4 j v hj)⟩) (hc.like l) hn hf
  | _,_,.own hid hl ha hg => .own (by rw[l.size];exact hid) hl ha (by
      rw[l.h]
      intro g' cs e
      obtain⟨h1,h2⟩:=hg g' cs e
      refine⟨h1,fun hgg=>?_⟩
      obtain⟨B,base,C,T,k1,k2,k3⟩:=h2 hgg
      exact⟨B,base,C,T,by rw[l.κ];exact k1,l.obj _ _ k2 (fun x h=>by cases h),k3⟩)
  | _,_,.nilm => .nilm
  | _,_,.map hid hg => .map (by rw[l.size];exact hid) (by rw[l.h,l.κ];exact hg)
  | _,_,.fn hf hc => .fn hf (hc.like l)
  | _,_,.nilf => .nilf
  | _,_,.yield hid hg => .yield (by rw[l.size];exact hid) (by rw[l.h,l.κ];exact hg)
  | _,_,.nili => .nili
theorem VCs.like {Y:Ctx}(l:u0 X Y):∀ {as:List AV} {vs:List Value},VCs φ X as vs→VCs φ Y as vs
 | _,_,.nil => .nil
 | _,_,.cons a b => .cons (a.like l) (b.like l)
end
theorem VR.like {Y:Ctx}(l:u0 X Y){a:AV}{v:Value}:VR φ X a v→VR φ Y a v
 | .one a => .one (a.like l)
 | .agg a => .agg (a.like l)
 | .undef v => .undef v
theorem VRs.like {Y:Ctx}(l:u0 X Y):∀ {as:List AV} {vs:List Value},VRs φ X as vs→VRs φ Y as vs
 | _,_,.nil => .nil
 | _,_,.cons a b => .cons (a.like l) (b.like l)
theorem VT.like {Y:Ctx}(l:u0 X Y){a:AV}{v:Value}:VT φ X a v→VT φ Y a v
 | .one a => .one (a.like l)
 | .tup a => .tup (a.like l)
theorem mj.like {Y:Ctx}(l:u0 X Y){kk:Option IntKind}:∀ {es fs},mj φ X kk es fs→mj φ Y kk es fs
 | _,_,.nil => .nil
 | _,_,.cons a b c d => .cons (a.like l) b (c.like l) (d.like l)
theorem rt.like {Y:Ctx}(l:u0 X Y){kk:Option IntKind}{es:List (AV×AV)}{ents:Array MapEntry}{clock:Nat}(k:rt φ X kk es ents clock):rt φ Y kk es ents clock:=⟨k.e.like l,k.s⟩
theorem bE.like {Y:Ctx}(l:u0 X Y)(hX:bE φ X):bE φ Y where
 cells:=fun id g cs e=>by
  rw[l.h]at e
  obtain⟨B,base,C,T,vs,k1,k2,k3,k4,k5⟩:=hX.cells id g cs e
  exact⟨B,base,C,T,vs,by rw[l.κ];exact k1,l.obj _ _ k2 (fun x h=>by cases h),k3,k4.like l,k5⟩
 maps:=fun id kk es e=>by
  rw[l.h]at e
  obtain⟨B,ents,clock,k1,k2,k3⟩:=hX.maps id kk es e
  exact⟨B,ents,clock,by rw[l.κ];exact k1,l.obj _ _ k2 (fun x h=>by cases h),k3.like l⟩
 loops:=fun id st p env ps a b e=>by
  rw[l.h]at e
  obtain⟨B,k1,⟨R,k2,k3,k4,k5,k6,k7⟩⟩:=hX.loops id _ _ _ _ _ _ e
  exact⟨B,by rw[l.κ];exact k1,R,l.obj _ _ k2 (fun x h=>by cases h),k3,k4,k5,fun t=>(k6 t).like l,k7⟩
 zero:=by rw[l.h,l.κ];exact hX.zero
 inj:=by rw[l.κ];exact hX.inj
 dom:=fun id B base e=>by
  rw[l.κ]at e
  obtain⟨k1,k2,k3⟩:=hX.dom id B base e
  exact⟨by rw[l.size];exact k1,by rw[l.M];exact k2,by rw[l.h];exact k3⟩
 ids:=fun id o e=>by
  rw[l.h]at e
  rw[l.size];exact hX.ids id o e
 mine:=fun B hb=>by
  rw[l.M]at hb
  rw[l.size];exact hX.mine B hb
theorem zt {D:Nat}{x:Option (List Deferred)}(hD:X.w.heap[D]?=some (.deferred x)):u0 X { X with w:=X.w.putObj D (.deferred none) } where
 κ:=rfl
 h:=rfl
 M:=rfl
 size:=by simp[World.putObj]
 cell:=fun a=>by
  have hlt:=(Array.getElem?_eq_some_iff.1 hD).1
  unfold World.cell?
  by_cases ha:a.block=D
  ·rw[ha,World.putObj_heap_same hlt,hD]
  ·rw[World.putObj_heap_other ha]
 obj:=fun B o hB ho=>by
  have hne:B≠D:=by
   rintro rfl
   rw[hB]at hD
   injection hD with hD
   exact ho _ hD
  exact(World.putObj_heap_other hne).trans hB
theorem Le.shut {X0:Ctx}(hle:Le X0 X){D:Nat}{x:Option (List Deferred)}(hD:X.w.heap[D]?=some (.deferred x))(hb:X0.w.heap.size≤D):Le X0 { X with w:=X.w.putObj D (.deferred none) } where
 size:=by simpa[World.putObj] using hle.size
 os:=hle.os
 output:=hle.output
 M:=hle.M
 kept:=fun B hB hn=>(World.putObj_heap_other Ll).trans (hle.kept B hB hn)
 muts:=hle.muts
 shape:=fun B C T fr e=>by
  obtain⟨C',k1,k2⟩:=hle.shape B C T fr e
  refine⟨C',?_,k2⟩
  have hlt:=(Array.getElem?_eq_some_iff.1 e).1
  exact(World.putObj_heap_other Ll).trans k1
 gen:=hle.gen
 map:=hle.map
 loop:=hle.loop
theorem wO {fn:Func}{rs:List vP}(hc:yz P fn.results.toList=some rs){X0:Ctx}{Q:AV→ad→Prop}:∀ {ds:List Deferred} {X:Ctx} {act:Act},act.defers=ds→Rel φ n X0.w.heap.size X env act→Le X0 X →
  (∃ v,fm env X.h rs=some v∧(Q v X.h∨∃ (S:Nat→Prop) (v':AV),FzV X.h S v v'∧Q v' (X.h.drop S)))→LeavesInM (fc none) 0 P fn act.tmps (fi φ P X0 Q) ds .returning X.w
 | [],X,act,hd,hR,hle,⟨v,hv,hq⟩=>by
  obtain⟨v',r1,r2⟩:=A7 hR hc hv
  refine⟨v',r1,?_⟩
  rcases hq with hq|⟨S,v2,hf,hq⟩
  ·exact⟨v,v',X,rfl,rfl,hle,hR.heap,r2,hq⟩
  ·obtain⟨hle2,hok,_⟩:=qh hR.heap S
   exact⟨v2,v',X.frz S,rfl,rfl,hle.trans hle2,hok,hf.vt hR.heap r2,hq⟩
 | d::ds,X,act,hd,hR,hle,hv=>by
  obtain⟨D,rfl,k2,k3,k4⟩:=hR.defers d (by rw[hd];simp)
  have hl:=zt k3
  have hap:=hR.apart
  rw[hd,List.nodup_cons]at hap
  refine⟨by simp,.inl ⟨D,X.w.putObj D (.deferred none),rfl,run_takeDeferred k3,?_⟩⟩
  refine wO hc (X:={ X with w:=X.w.putObj D (.deferred none) }) (act:={ act with defers:=ds }) rfl ?_ (hle.shut k3 k2) hv
  refine { tmps:=fun t=>(hR.tmps t).like hl,size:=hR.size,defers:=fun d' hd'=>?_,apart:=hap.2,base:=by simpa[World.putObj] using hR.base,heap:=hR.heap.like hl }
  obtain⟨D',rfl,m2,m3,m4⟩:=hR.defers d' (by rw[hd];exact List.mem_cons_of_mem _ hd')
  have hne:D'≠D:=by
   rintro rfl
   exact hap.1 hd'
  exact⟨D',rfl,m2,(World.putObj_heap_other hne).trans m3,fun h=>m4 ((hl.mut _).1 h)⟩
variable (hz:∀ m c d,φ.code m c d↔(ji num P m c=some d∧ey c=true)) (hm:P.follows .mixedOrders=true) (hn:∀ f k,num f=some k→φ k=some f) (hE:qt φ P) (hF:FOk φ P F) (hFe:mH F) (hFm:jL F)
include hz hm hn hE hF hFe hFm
theorem JY {fid:FuncId}{fn:Func}{d:bN}(hfn:P.funcs[fid]?=some fn)(hd:bM num P fn=some d)(hX:bE φ X){args:List AV}{vals:List Value}(ha:VRs φ X args vals){Q:AV→ad→Prop}(hw:FT F d args X.h Q) :
  Calls P fid vals.toArray X.w (fi φ P X Q):=by
 simp only[bM,Option.bind_eq_some_iff,Option.map_eq_some_iff]at hd
 obtain⟨c,hc,dc,hdc,rs,hrs,rfl⟩:=hd
 have hal:args.length=vals.length:=by
  clear hw
  induction ha with
  | nil=>rfl
  | cons _ _ ih=>simp[ih]
 have hR:Rel φ fn.ntmps X.w.heap.size X (kR args) { tmps:=vals.toArray++Array.replicate (fn.ntmps-vals.toArray.size) undef,defers:=[] }:=by
  refine⟨fun t=>?_,(by simp;omega),(fun d hd=>by cases hd),List.nodup_nil,Nat.le_refl _,hX⟩
  simp only[kR]
  rw[Array.getD_eq_getD_getElem?]
  by_cases ht:t<args.length
  ·obtain⟨a,e⟩:∃ a,args[t]?=some a:=⟨_,List.getElem?_eq_getElem ht⟩
   obtain⟨v,h1,h2⟩:=ha.get e
   rw[List.getD_eq_getElem?_getD,e,Array.getElem?_append_left (by simp;omega)]
   simp only[List.getElem?_toArray,h1,Option.getD_some]
   exact .one h2
  ·rw[List.getD_eq_getElem?_getD,List.getElem?_eq_none Ll]
   exact .one (.undef _)
 refine HJ (r:=none) (n:=0) (callsIn_of_wp_marks hfn hc trivial (wpIn_mono (lJ (r:=none) hz hm hn hE hF hFe hFm c hdc (.inl rfl) hR hw) ?_))
 rintro e a' w' ⟨ex,env',X',h1,rfl,h3,h4,h5,h6⟩
 have hgo:LeavesInM (fc none) 0 P fn a'.tmps (fi φ P X Q) a'.defers .returning X'.w:=by
  refine wO hrs rfl h4 h3 ?_
  unfold fj at h6
  split at h6
  ·rename_i v hv
   exact⟨v,hv,h6⟩
  ·exact h6.elim
 rcases h5 with rfl|rfl
 ·cases e<;>simp only[lH]at h1<;>first|(cases h1;done)|exact hgo
 ·cases e<;>simp only[lH]at h1<;>first|(cases h1;done)|exact hgo
omit hz hm hn hE hF hFe hFm in
theorem qD:∀ {ps:List Nat} {as:List AV} {vs:List Value} {env:Env} {tmps:Array Value},VRs φ X as vs→(∀ t∈ps,t<tmps.size)→(∀ t,VT φ X (env t) (tmps.getD t undef)) →
  (∀ t,VT φ X (jX env ps as t) (((ps.zip vs).foldl (fun tmps (x:Nat×Value)=>tmps.setIfInBounds x.1 x.2) tmps).getD t undef))∧((ps.zip vs).foldl (fun tmps (x:Nat×Value)=>tmps.setIfInBounds x.1 x.2) tmps).size=tmps.size
 | [],as,vs,env,tmps,_,_,h=>⟨fun t=>by simpa[jX] using h t,rfl⟩
 | p::ps,[],vs,env,tmps,hv,_,h=>by cases hv;exact⟨fun t=>by simpa[jX] using h t,rfl⟩
 | p::ps,a::as,vs,env,tmps,hv,hp,h=>by
  cases hv with
  | cons h1 h2 =>
   rename_i v vs
   have hlt:=hp p Lm
   obtain⟨g1,g2⟩:=qD (ps:=ps) (env:=env.put p a) (tmps:=tmps.setIfInBounds p v) h2 (fun t ht=>by simpa using hp t (by simp[ht])) (fun t=>by
    unfold Env.put
    by_cases hi:t=p
    ·subst hi
     rw[if_pos rfl,show(tmps.setIfInBounds t v).getD t undef=v by simp[Array.getD,hlt]]
     exact .one h1
    ·rw[if_neg hi,show(tmps.setIfInBounds p v).getD t undef=tmps.getD t undef by
      simp only[Array.getD_eq_getD_getElem?,Array.getElem?_setIfInBounds_ne (Ne.symm hi)]]
     exact h t)
   exact⟨by simpa[jX] using g1,by simpa using g2⟩
omit hz hm hn hE hF hFe hFm in
theorem Cc (hX:bE φ X){id l:Nat}{st st':LoopState}{pend:Option (Option Ex)}{pc:Option Code}{K:ad→Prop}(hw:fB id st st' pend K X.h)(hκ:X.κ id=some (l,0))(hp:∀ p,pend=some p→p8 p pc) :
  ∃ R:Loop,X.w.heap[l]?=some (.loop R)∧R.state=st∧(∀ R':Loop,R'={ R with state:=st',pending:=if pend.isSome then pc else R.pending }→∃ X',X'.w=X.w.putObj l (.loop R')∧Le X X'∧bE φ X'∧K X'.h∧X'.κ id=some (l,0)):=by
 unfold fB at hw
 split at hw
 rotate_left
 ·exact hw.elim
 rename_i st0 p env ps a b hg
 obtain⟨rfl,hk⟩:=hw
 obtain⟨B,k1,⟨R,k2,k3,k4,k5,k6,k7⟩⟩:=hX.loops _ _ _ _ _ _ _ hg
 rw[hκ]at k1
 injection k1 with k1
 injection k1 with k1 _
 subst k1
 refine⟨R,k2,k3,fun R' hR'=>?_⟩
 have hBlt:=(Array.getElem?_eq_some_iff.1 k2).1
 have hupd:=hX.updateLoop (id:=id) (st':=st') (p':=pend.getD p) (env':=env) (ps':=ps) (a':=a) (b':=b) (B:=l) (w':=X.w.putObj l (.loop R')) (R':=R')
  (by simp[World.putObj]) rfl rfl (fun i hi hne=>World.putObj_heap_other hne) (World.putObj_heap_same hBlt) (by simpa[World.putObj] using hX.ids _ _ hg) (.inl ⟨_,_,_,_,_,_,R,hg,hκ,k2⟩) (by rw[hR'])
  (by
   rw[hR']
   cases pend with
   | none=>simpa using k4
   | some q=>simpa using hp q rfl) (by rw[hR'];exact k5) (by rw[hR'];exact k6) (by rw[hR'];exact k7)
 exact⟨_,rfl,hupd.1,hupd.2,hk,by simp⟩
omit hE hn hm in
theorem GE (hcode:∀ {r:Option Nat} {n bs:Nat} (c:Code) {d:gk},ji num P n c=some d→(r=none∨ey c=true)→∀ {X:Ctx} {env:Env} {act:Act} {Q:Ex→Env→ad→Prop},Rel φ n bs X env act→bm F d Q env X.h→c.wpIn (fc r) 0 P (oR φ n bs X Q) act X.w)
    {id l:Nat} {as:List AV} {vals:List Value} {Q:AV→ad→Prop} (hw:nu F (.yield id::as) X.h Q) (hX:bE φ X) (hv:VRs φ X as vals) (hl:VC φ X (.yield id) (.func (.yield l) #[] #[])) :
    ∃ fn tmps a b,(Instr.yield l vals.toArray).run P X.w = .ok (.round l fn tmps a b) X.w∧∀ r,RoundIn (fc r) 0 P l fn tmps a b X.w (fi φ P X Q):=by
  unfold nu at hw
  dsimp only at hw
  split at hw
  rotate_left
  · exact hw.elim
  rename_i st p env ps a b hg
  obtain⟨hlen,hw⟩:=hw
  cases hl with
  | yield hid hκ =>
    have hκ:=hκ _ _ _ _ _ _ hg
    obtain⟨B,k1,⟨R,k2,k3,k4,k5,k6,m,k7,k8,k9,k10⟩⟩:=hX.loops _ _ _ _ _ _ _ hg
    rw[hκ]at k1
    injection k1 with k1
    injection k1 with k1 _
    subst k1
    obtain⟨ca1,ca2⟩:=(hz _ _ _).1 k9
    obtain⟨cb1,cb2⟩:=(hz _ _ _).1 k10
    have hvl:as.length=vals.length:=by
      clear hw hlen hg
      induction hv with
      | nil=>rfl
      | cons _ _ ih=>simp[ih]
    have hy:=run_yield (P:=P) (args:=vals.toArray) k2 (by
      have:R.params.size=ps.length:=by rw[← k5];simp
      simp;omega)
    refine⟨_,_,_,_,hy,fun r=>roundIn_of_wpIn trivial ?_⟩
    have hfold:(R.params.zip vals.toArray).foldl (fun tmps (x:Nat×Value)=>tmps.setIfInBounds x.1 x.2) R.tmps=(ps.zip vals).foldl (fun tmps (x:Nat×Value)=>tmps.setIfInBounds x.1 x.2) R.tmps:=by
      rw[← Array.foldl_toList]
      congr 1
      rw[Array.toList_zip,k5]
    obtain⟨g1,g2⟩:=qD (X:=X) (env:=env) (tmps:=R.tmps) hv (fun t ht=>by have:=k8 t ht;omega) k6
    have hR:Rel φ m 0 X (jX env ps as) { tmps:=(R.params.zip vals.toArray).foldl (fun tmps (x:Nat×Value)=>tmps.setIfInBounds x.1 x.2) R.tmps,defers:=[] }:=by
      refine⟨fun t=>?_,?_,(fun d hd=>by cases hd),List.nodup_nil,Nat.zero_le _,hX⟩
      · rw[hfold];exact g1 t
      · rw[hfold,g2];exact k7
    refine wpIn_mono (hcode (r:=some l) R.assign ca1 (.inr ca2) hR hw) ?_
    rintro e a₁ w₁ ⟨ex,env1,X1,h1,rfl,hle1,hR1,rfl,hturn⟩
    have he:e = .normal:=by cases e<;>simp[lH]at h1<;>rfl
    subst he
    have hκ1:X1.κ id=some (l,0):=by
      unfold fB at hturn
      split at hturn
      · rename_i hg1
        exact((hle1.loop _ hid _ _ _ _ _ _ hg1).2).trans hκ
      · exact hturn.elim
    obtain⟨R1,t1,t2,t3⟩:=Cc (pc:=none) hR1.heap hturn hκ1 (fun p h=>by cases h)
    obtain⟨X2,u1,u2,u3,u4,u5⟩:=t3 { R1 with state := .busy } Lm
    refine⟨X2.w,by rw[u1];exact run_beginRound t1 t2,?_⟩
    have hle2:=hle1.trans u2
    refine wpIn_mono (hcode (r:=some l) R.body cb1 (.inr cb2) (hR1.le u2 u3) u4) ?_
    have hκ3:∀ {X3:Ctx} {st':LoopState} {pd:Option (Option Ex)} {K:ad→Prop},Le X2 X3→fB id .busy st' pd K X3.h→X3.κ id=some (l,0):=fun hle3 ht=>by
      unfold fB at ht
      split at ht
      · rename_i hg3
        exact((hle3.loop _ (Nat.lt_of_lt_of_le hid hle2.size) _ _ _ _ _ _ hg3).2).trans u5
      · exact ht.elim
    rintro e a₂ w₂ ⟨ex,env3,X3,h3,rfl,hle3,hR3,hq⟩
    have hfin:∀ {b:Bool} {jump:Option Code} {pd:Option Ex} {st':LoopState},fB id .busy st' (some pd) (Q (.bool b)) X3.h→p8 pd jump→st'=(if jump.isNone then .ready else .done)→b=jump.isNone →
        ∃ v w',(Instr.endRound l jump).run P X3.w = .ok v w'∧fi φ P X Q (.returned v) w':=by
      intro b jump pd st' ht hp hst hb
      obtain⟨R3,s1,s2,s3⟩:=Cc (pc:=jump) hR3.heap ht (hκ3 hle3 ht) (fun p h=>by cases h;exact hp)
      obtain⟨X4,v1,v2,v3,v4,v5⟩:=s3 { R3 with state:=if jump.isNone then .ready else .done,pending:=jump } (by simp[hst])
      refine⟨.bool jump.isNone,X4.w,by rw[v1];exact run_endRound jump s1,.bool b,_,X4,rfl,rfl,(hle2.trans hle3).trans v2,v3,?_,v4⟩
      rw[hb]
      exact .one (.one (.bool _))
    cases e<;>simp only[lH]at h3<;>try (cases h3;done)
    · injection h3 with h3;subst h3
      exact hfin hq trivial rfl rfl
    · injection h3 with h3;subst h3
      exact hfin (jump:=some (.exit _)) hq rfl rfl rfl
    · injection h3 with h3;subst h3
      exact hfin (jump:=some .ret) hq trivial rfl rfl
end
structure CN (Φ:Lib)(φ:Phi)(num:FuncId→Option Nat)(P:Program):Prop where
 mixed:P.follows .mixedOrders=true
 nums:∀ f k,num f=some k→φ k=some f
 zero:φ fU=none
 loops:∀ m c d,φ.code m c d↔(ji num P m c=some d∧ey c=true)
 enters:qt φ P
 code:∀ k fid d,φ k=some fid→Φ k=some (.code d)→∃ fn,P.funcs[fid]?=some fn∧bM num P fn=some d
 ext:∀ k fid p,φ k=some fid→Φ k=some (.ext p)→∀ (X:Ctx) (args:List AV) (vals:List Value) (Q:AV→ad→Prop),p.pt args X.h Q→bE φ X→VRs φ X args vals→Calls P fid vals.toArray X.w (fi φ P X Q)
theorem Ip {Φ:Lib}{φ:Phi}{num:FuncId→Option Nat}{P:Program}(hL:CN Φ φ num P):FOk φ P (bc Φ):=by
 let Y (f:Nat) (args:List AV) (h:ad) (Q:AV→ad→Prop):Prop:=∀ id as,f=fU→args = .yield id::as→∀ X vals l,X.h=h→bE φ X→VRs φ X as vals→VC φ X (.yield id) (.func (.yield l) #[] #[]) →
  ∃ fn tmps a b,(Instr.yield l vals.toArray).run P X.w = .ok (.round l fn tmps a b) X.w∧∀ r,RoundIn (fc r) 0 P l fn tmps a b X.w (fi φ P X Q)
 let F:bZ:=fun f args h Q=>bc Φ f args h Q∧(∀ X vals fid,X.h=h→bE φ X→VRs φ X args vals→φ f=some fid→Calls P fid vals.toArray X.w (fi φ P X Q))∧Y f args h Q
 have hcm:∀ {X:Ctx} {Q Q':AV→ad→Prop} {e:Ending} {w':World},(∀ v h,Q v h→Q' v h)→fi φ P X Q e w'→fi φ P X Q' e w':=fun hq ⟨v,v',X',e1,e2,e3,e4,e5,e6⟩=>⟨v,v',X',e1,e2,e3,e4,e5,hq _ _ e6⟩
 have hFm:jL F:=fun f args h Q Q' hq ⟨h1,h2,h3⟩=>⟨bc.mono Φ _ _ _ _ _ hq h1,fun X vals fid a b c d=>(h2 X vals fid a b c d).mono fun e w'=>hcm hq,
  fun id as e1 e2 X vals l a b c d=>let ⟨fn,tmps,ca,cb,g1,g2⟩:=h3 id as e1 e2 X vals l a b c d;⟨fn,tmps,ca,cb,g1,fun r=>(g2 r).mono fun e w'=>hcm hq⟩⟩
 have hle:FLe F (bc Φ):=fun _ _ _ _ h=>h.1
 have hFe:mH F:=fun _ _ _ _ h=>bc.feas Φ _ _ _ _ h.1
 have hFok:FOk φ P F:=⟨fun f args h Q hh=>hh.2.1,fun id args h Q hh=>hh.2.2 id args rfl rfl⟩
 have key:∀ f args h Q,bc Φ f args h Q→F f args h Q:=fun f args h Q hr=>hr F (fun f args h Q hw=>⟨bc.fold (tm hle hFm (fun _ _ h=>h) hw),fun X vals fid hXh hX hv hf=>?_,fun id as e1 e2 X vals l hXh hX hv hl=>?_⟩) hFm
 ·exact⟨fun f args h Q hr=>(key f args h Q hr).2.1,fun id args h Q hr=>(key _ _ h Q hr).2.2 id args rfl rfl⟩
 ·subst hXh
  unfold nY at hw
  split at hw
  ·rename_i h0
   subst h0
   rw[hL.zero]at hf
   cases hf
  ·cases hΦ:Φ f with
   | none=>rw[hΦ]at hw;exact hw.elim
   | some df =>
    rw[hΦ]at hw
    cases df with
    | code d =>
     obtain⟨fn,h1,h2⟩:=hL.code f fid d hf hΦ
     exact JY hL.loops hL.mixed hL.nums hL.enters hFok hFe hFm h1 h2 hX hv hw
    | ext p=>exact hL.ext f fid p hf hΦ X args vals Q hw hX hv
 ·subst hXh e1 e2
  unfold nY at hw
  rw[if_pos rfl]at hw
  exact GE hL.loops hFok hFe hFm (fun c=>fun hc hnr=>fun hR hw=>lJ hL.loops hL.mixed hL.nums hL.enters hFok hFe hFm c hc hnr hR hw) hw hX hv hl
end
end Go.Proofs.YtlnobeojgifojaaGreatDoor
