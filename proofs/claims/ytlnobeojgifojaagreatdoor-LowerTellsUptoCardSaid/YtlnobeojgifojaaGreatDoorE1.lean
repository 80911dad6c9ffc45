/- Single steps: unsigned numbers, strings, arrays, maps. -/
import Derived.Test.YtlnobeojgifojaaGreatDoorB2
import Derived.Test.YtlnobeojgifojaaGreatDoorCC
import Derived.Test.YtlnobeojgifojaaGreatDoorD7
set_option linter.unusedVariables false
set_option linter.unusedSimpArgs false
namespace Go.Proofs.YtlnobeojgifojaaGreatDoor
section
open Go
def bn (s:List UInt8):List AV:=s.map fun b => .int .u8 b.toNat
theorem nn (s:List UInt8):(bn s).length=s.length:=by simp[bn]
theorem vM (s:List UInt8):mE (bn s)=some s:=by
 induction s with
 | nil=>rfl
 | cons b s ih =>
  have:bn (b::s) = .int .u8 b.toNat::bn s:=rfl
  rw[this,mE,ih]
  simp
section
variable {F:bZ} {r:List bK} {Q:Env→ad→Prop} {env:Env} {h:ad} {d:Nat} {x y z c:bA}
theorem If {a b s}(hx:ev env x = .int .u64 a)(hy:ev env y = .int .u64 b)(hs:a-b=s)(h1:0≤s)(h2:s≤18446744073709551615)(k:az F r Q (env.put d (.int .u64 s)) h):az F (⟨some d,.bin .sub x y,none⟩::r) Q env h:=by
 subst hs
 have:IntKind.u64.wrap (a-b)=a-b:=by simp[IntKind.wrap,IntKind.bits,IntKind.signed];omega
 simp[hx,hy,this,k]
theorem Ij {a b s}(hx:ev env x = .int .u64 a)(hy:ev env y = .int .u64 b)(hs:a*b=s)(h1:0≤s)(h2:s≤18446744073709551615)(k:az F r Q (env.put d (.int .u64 s)) h):az F (⟨some d,.bin .mul x y,none⟩::r) Q env h:=by
 subst hs
 have:IntKind.u64.wrap (a*b)=a*b:=by simp[IntKind.wrap,IntKind.bits,IntKind.signed];omega
 simp[hx,hy,this,k]
theorem Ig {a b}(hx:ev env x = .int .u64 a)(hy:ev env y = .int .u64 b)(h0:0≤a)(h1:0<b)(h2:a≤18446744073709551615)(k1:az F r Q (env.put d (.int .u64 (a / b))) h):az F (⟨some d,.bin .quo x y,none⟩::r) Q env h:=by
 have hb:b≠0:=by omega
 have e:a.tdiv b=a / b:=Int.tdiv_eq_ediv_of_nonneg h0
 have l1:0≤a / b:=Int.ediv_nonneg h0 Ll
 have l2:a / b≤a:=Int.ediv_le_self b h0
 have:IntKind.u64.wrap (a.tdiv b)=a / b:=by rw[e];simp[IntKind.wrap,IntKind.bits,IntKind.signed];omega
 simp[hx,hy,hb,this,k1]
theorem tE {k a}(hx:ev env x = .int k a)(h0:0≤a)(h1:a≤18446744073709551615)(k1:az F r Q (env.put d (.int .u64 a)) h):az F (⟨some d,.conv .u64 x,none⟩::r) Q env h:=by
 have:IntKind.u64.wrap a=a:=by simp[IntKind.wrap,IntKind.bits,IntKind.signed];omega
 simp[hx,this,k1]
theorem xC {k a}(hx:ev env x = .int k a)(h0:a<0)(h1 : -9223372036854775808≤a)(k1:az F r Q (env.put d (.int .u64 (a+18446744073709551616))) h):az F (⟨some d,.conv .u64 x,none⟩::r) Q env h:=by
 have:IntKind.u64.wrap a=a+18446744073709551616:=by simp[IntKind.wrap,IntKind.bits,IntKind.signed];omega
 simp[hx,this,k1]
theorem Ii {a}(hx:ev env x = .int .u64 a)(h0:0<a)(h1:a≤18446744073709551615)(k1:az F r Q (env.put d (.int .u64 (18446744073709551616-a))) h):az F (⟨some d,.un .neg x,none⟩::r) Q env h:=by
 have:IntKind.u64.wrap (-a)=18446744073709551616-a:=by simp[IntKind.wrap,IntKind.bits,IntKind.signed];omega
 simp[hx,this,k1]
theorem sd {s k j b}(hx:ev env x = .str s)(hy:ev env y = .int k j)(h0:0≤j)(h1:j<s.length)(hb:s.getD j.toNat 0=b)(k1:az F r Q (env.put d (.int .u8 b.toNat)) h):az F (⟨some d,.indexStr x y,none⟩::r) Q env h:=by
 subst hb
 have:j<s.length:=h1
 simp only[bO,xk,a8,hx,hy,bH]
 rw[if_pos ⟨h0,h1⟩]
 exact k1
theorem nP {n e id g o k j s}(hx:ev env x = .ptr id g o)(hy:ev env y = .int k j)(h0:0≤j)(h1:j<(n:Nat))(hs:o+j.toNat*e=s)(k1:az F r Q (env.put d (.ptr id g s)) h):az F (⟨some d,.indexAddrA n e x y,none⟩::r) Q env h:=by
 subst hs
 simp only[bO,tu,a8,hx,hy,bH]
 rw[if_pos ⟨h0,h1⟩]
 exact k1
theorem xy {n e id g k j cs}(hx:ev env x = .ptr id g 0)(hy:ev env y = .int k j)(hg:h.get id=some (.cells g cs))(hl:n*e≤cs.length)(h0:0≤j)(h1:j≤(n:Nat))(k1:az F r Q (env.put d (.own id g e j.toNat (n-j).toNat (some (n-j.toNat)))) h):az F (⟨some d,.sliceA n e x (some y) none,none⟩::r) Q env h:=by
 simp only[bO,AG,bg,hx,hy,hg,bH,eY,Option.bind_some]
 rw[if_pos ⟨trivial,hl,h0,h1,Int.le_refl _⟩]
 exact k1
theorem lP {v m s}(hx:ev env x=v)(hi:v.isStr=false)(hs:bB h 1 v=some (m,bn s))(k1:az F r Q (env.put d (.str s)) h):az F (⟨some d,.strOf x,none⟩::r) Q env h:=by
 simp only[bO,CX,bg,hx,hs,bH,hi,Option.bind_some,vM,Option.map_some]
 exact k1
theorem lQ {kk}(k1:∀ id,h.get id=none→az F r Q (env.put d (.map id)) (h.set id (.map kk []))):az F (⟨some d,.mkmap kk,none⟩::r) Q env h:=by
 simp only[bO,CY,bH]
 exact k1
theorem lR {id kk es}(hx:ev env x = .map id)(hg:h.get id=some (.map kk es))(k1:az F r Q (env.put d (.int .i64 es.length)) h):az F (⟨some d,.len 2 x,none⟩::r) Q env h:=by
 simp only[bO,Ca,bg,hx,hg,bH]
 exact k1
theorem wm {kk zero id es key}(hx:ev env x = .map id)(hy:ev env y=key)(hk:kc kk key=true)(hg:h.get id=some (.map kk es))(k1:az F r Q (env.put d ((iN es key).getD zero)) h):az F (⟨some d,.lookup kk zero false x y,none⟩::r) Q env h:=by
 simp only[bO,tq,bg,hx,hy,hg,bH,hk,if_true]
 exact k1
theorem jk {kk zero id es key}(hx:ev env x = .map id)(hy:ev env y=key)(hk:kc kk key=true)(hg:h.get id=some (.map kk es))(k1:az F r Q (env.put d (.tup [(iN es key).getD zero,.bool (iN es key).isSome])) h):az F (⟨some d,.lookup kk zero true x y,none⟩::r) Q env h:=by
 simp only[bO,tq,bg,hx,hy,hg,bH,hk,if_true]
 exact k1
theorem gP {kk id es key v}(hx:ev env x = .map id)(hy:ev env y=key)(hz:ev env z=v)(hk:kc kk key=true)(hv:v.isVal=true)(hg:h.get id=some (.map kk es))(k1:az F r Q env (h.set id (.map kk (mf es key v)))):az F (⟨none,.update kk x y z,none⟩::r) Q env h:=by
 simp only[bO,AF,dr,hx,hy,hz,hg,hk,hv,and_self,if_true,sj]
 exact k1
end
end
section
open Go
set_option maxHeartbeats 4000000
attribute [local irreducible] az bf bm de bz cw dH bJ wop cz bc
def J1:List UInt8:=[48,49,50,51,52,53,54,55,56,57,97,98,99,100,101,102,103,104,105,106,107,108,109,110,111,112,113,114,115,116,117,118,119,120,121,122]
def jS (n:Nat):UInt8:=J1.getD n 0
def iW (u:Nat):List UInt8:=if h:u<36 then [jS u] else iW (u / 36)++[jS (u%36)]
termination_by u
decreasing_by omega
def dP (x:Int):List UInt8:=if x<0 then 45::iW x.natAbs else iW x.natAbs
theorem jP {u:Nat}(h:u<36):iW u=[jS u]:=by rw[iW,dif_pos h]
theorem ka {u:Nat}(h:¬ u<36):iW u=iW (u / 36)++[jS (u%36)]:=by rw[iW,dif_neg h]
theorem um (u:Nat):1≤(iW u).length:=by
 by_cases h:u<36
 ·rw[jP h];simp
 ·rw[ka h];simp
theorem sn (k:Nat):∀ u:Nat,u<36 ^ (k+1)→(iW u).length≤k+1:=by
 induction k with
 | zero=>intro u h;rw[jP (by simpa using h)];simp
 | succ k ih =>
  intro u h
  by_cases h1:u<36
  ·rw[jP h1];simp
  ·rw[ka h1]
   have:=ih (u / 36) (by rw[Nat.div_lt_iff_lt_mul Ll];rw[Nat.pow_succ]at h;exact h)
   simp
   omega
theorem ID {u:Nat}(h:u<18446744073709551616):(iW u).length≤13:=sn 12 u (Nat.lt_of_lt_of_le h (by decide))
theorem wZ:∀ a,a<36→∀ b,b<36→jS a=jS b→a=b:=by decide
theorem Af:∀ a,a<36→jS a≠32∧jS a≠45:=by decide
theorem s9 {u:Nat}:∀ c∈iW u,c≠32∧c≠45:=by
 induction u using Nat.strongRecOn with
 | ind u ih =>
  by_cases h:u<36
  ·rw[jP h]
   intro c hc
   obtain rfl:=List.mem_singleton.1 hc
   exact Af u h
  ·rw[ka h]
   intro c hc
   rcases List.mem_append.1 hc with hc|hc
   ·exact ih (u / 36) Ll c hc
   ·obtain rfl:=List.mem_singleton.1 hc
    exact Af _ (Nat.mod_lt _ Ll)
theorem zL {u v:Nat}(e:iW u=iW v):u=v:=by
 induction u using Nat.strongRecOn generalizing v with
 | ind u ih =>
  by_cases h:u<36<;>by_cases h2:v<36
  ·rw[jP h,jP h2]at e
   exact wZ u h v h2 (by simpa using e)
  ·rw[jP h,ka h2]at e
   have h3:=congrArg List.length e
   have h4:=um (v / 36)
   simp only[List.length_append,List.length_cons,List.length_nil]at h3
   omega
  ·rw[ka h,jP h2]at e
   have h3:=congrArg List.length e
   have h4:=um (u / 36)
   simp only[List.length_append,List.length_cons,List.length_nil]at h3
   omega
  ·rw[ka h,ka h2]at e
   obtain⟨e1,e2⟩:=List.append_inj' e rfl
   have:=ih (u / 36) Ll e1
   have:=wZ _ (Nat.mod_lt _ Ll) _ (Nat.mod_lt _ Ll) (by simpa using e2)
   omega
theorem tc {x:Int}:∀ c∈dP x,c≠32:=by
 intro c hc
 unfold dP at hc
 split at hc
 ·rcases List.mem_cons.1 hc with rfl|hc
  ·decide
  ·exact(s9 c hc).1
 ·exact(s9 c hc).1
theorem oA {x y:Int}(e:dP x=dP y):x=y:=by
 unfold dP at e
 split at e<;>split at e
 ·have:=zL (List.cons.inj e).2
  omega
 ·have h1:(45:UInt8)∈iW y.natAbs:=e ▸ List.mem_cons_self
  exact absurd rfl (s9 _ h1).2
 ·have h1:(45:UInt8)∈iW x.natAbs:=e.symm ▸ List.mem_cons_self
  exact absurd rfl (s9 _ h1).2
 ·have:=zL e
  omega
def cq (l:List Int):List UInt8:=l.flatMap fun x=>32::dP x
theorem wq {a b r s:List UInt8}(ha:∀ c∈a,c≠32)(hb:∀ c∈b,c≠32)(hr:∀ c,r.head?=some c→c=32)(hs:∀ c,s.head?=some c→c=32)(e:a++r=b++s):a=b∧r=s:=by
 induction a generalizing b with
 | nil =>
  cases b with
  | nil=>exact⟨rfl,e⟩
  | cons c b =>
   simp at e
   have h1:=hr c (by rw[e];rfl)
   exact absurd h1 (hb c Lm)
 | cons x a ih =>
  cases b with
  | nil =>
   simp at e
   have h1:=hs x (by rw[← e];rfl)
   exact absurd h1 (ha x Lm)
  | cons c b =>
   simp at e
   obtain⟨h1,h2⟩:=ih (fun c hc=>ha c (by simp[hc])) (fun c hc=>hb c (by simp[hc])) e.2
   exact⟨by rw[e.1,h1],h2⟩
theorem mo (l:List Int):∀ c,(cq l).head?=some c→c=32:=by
 cases l with
 | nil=>intro c hc;cases hc
 | cons x l=>intro c hc;simp[cq]at hc;exact hc.symm
theorem pQ:∀ {l m:List Int},cq l=cq m→l=m
 | [],[],_=>rfl
 | [],_::_,e=>by simp[cq]at e
 | _::_,[],e=>by simp[cq]at e
 | x::l,y::m,e=>by
  have e1:dP x++cq l=dP y++cq m:=by
   simp only[cq,List.flatMap_cons,List.cons_append]at e
   exact(List.cons.inj e).2
  obtain⟨h1,h2⟩:=wq tc tc (mo l) (mo m) e1
  rw[oA h1,pQ h2]
theorem Dc {x y:Int}{l m:List Int}(e:dP x++cq l=dP y++cq m):x=y∧l=m:=by
 obtain⟨h1,h2⟩:=wq tc tc (mo l) (mo m) e
 exact⟨oA h1,pQ h2⟩
theorem rc {as:List AV}{i:Nat}{suf:List UInt8}{d:UInt8}(has:as.length=65)(hi:1≤i∧i≤65)(hdr:as.drop i=bn suf):(as.set (i-1) (.int .u8 d.toNat)).drop (i-1)=bn (d::suf):=by
 rw[List.drop_set,if_neg Ll,Nat.sub_self]
 rw[List.drop_eq_getElem_cons (by omega:i-1<as.length),List.set_cons_zero,show i-1+1=i by omega,hdr]
 rfl
theorem vu {h:ad}{id g e off len m:Nat}{lim:Option Nat}{cs new:List AV}(hg:h.get id=some (.cells g cs))(hm:len=m)(hl:(off+len)*e≤cs.length)(hn:(cs.drop (off*e)).take (len*e)=new):bB h e (.own id g e off len lim)=some (m,new):=by
 subst hm hn
 simp only[bB,hg]
 rw[if_pos ⟨trivial,trivial,hl⟩]
theorem zm {env:Env}{h:ad}{a b:Nat}{v w:AV}(h1:env a=v)(h2:env b=w)(n1:v.isTup=false)(n2:w.isTup=false):fm env h [.tmp a,.tmp b]=some (.tup [v,w]):=by
 subst h1 h2
 have:fm env h [.tmp a,.tmp b]=if [env a,env b].all (fun x => !x.isTup)=true then some (.tup [env a,env b]) else none:=rfl
 rw[this,if_pos]
 rw[List.all_cons,List.all_cons,n1,n2]
 rfl
theorem Iu {Φ:Lib}(L:cJ Φ):eQ Φ 146 [.int .i64 36] (.bool false):=by
 refine ba (fun _=>false) rfl L.f146 ?_
 repeat' first|apply ac|(apply gw;first|(apply gq0;first|refine aq rfl ?_|refine bl rfl ?_)|refine jj rfl rfl rfl Ll Ll ?_)|(apply gx;first|apply af|refine ae rfl ?_)|apply aa
 refine eU rfl (v := .int .i64 32) rfl ?_
 repeat' first|apply ac|(apply gw;first|refine bl rfl ?_|(refine dd rfl rfl rfl ?_ ?_<;>(intro hc;try omega)))|apply aM|apply aa|refine aJ (v:=AV.bool _) rfl ?_
 rfl
theorem vH {Φ:Lib}(L:cJ Φ){h:ad}{v:AV}{n:Nat}{cs:List AV}(hrow:aD h v 1 n cs)(hn:n≤2147483648)(u:Nat)(hu:u<18446744073709551616) :
  bc Φ 140 [v,.int .u64 u,.int .i64 36,.bool false,.bool true] h (fun v' h'=>∃ va,v' = .tup [va,.str []]∧aD h' va 1 (n+(iW u).length) (cs++bn (iW u))∧(∀ id,h.get id≠none→v.rowId≠some id→h'.get id=h.get id)∧(∀ id,va.rowId=some id→v.rowId=some id∨h.get id=none)):=by
 have hp:=Iu L
 have hnt:=hrow.notTup
 refine ba (fun _=>false) rfl L.f140 ?_
 repeat' first|apply ac|(apply gw;first|(apply gq0;first|refine aq rfl ?_|refine bl rfl ?_|refine aG rfl ?_|refine au (v:=AV.str _) rfl ?_)|refine cj rfl ?_|(apply gq3;first|((first|refine aA rfl rfl rfl ?_ ?_|refine cN rfl rfl rfl ?_ ?_|refine dd rfl rfl rfl ?_ ?_)<;>(intro hc;try omega)))|refine bb rfl rfl ?_|refine aH rfl nt_ ?_|(refine bV ?_;intro id hid;try simp only[ad.set_none]at hid)|refine tE rfl Ll Ll ?_)|(apply gx;first|apply af|refine ae rfl ?_|apply ay|apply al|refine ai rfl ?_)|apply aa|refine aW (by assumption) fz_ fz_ ?_
 have h13:=ID hu
 have hfr:∀ k,h.get k≠none→k≠id:=fun k hk e=>hk (e ▸ hid)
 refine gL (fun m env h'=>∃ (w i:Nat) (suf:List UInt8) (as:List AV),m=w∧w≤u∧suf.length+i=65∧iW w++suf=iW u∧as.length=65∧as.drop i=bn suf∧h'.get id=some (.cells 0 as)∧(∀ k,h.get k≠none→h'.get k=h.get k)∧env.has [(0,v),(1,.int .u64 w),(3,.bool false),(4,.bool true),(11,.str []),(12,.ptr id 0 0),(13,.int .i64 i),(17,.int .u64 36)]) u ⟨u,65,[],_,rfl,Nat.le_refl _,rfl,by simp,rfl,rfl,ad.get_set_self _ _ _,fun k hk=>ad.get_set_ne _ _ (hfr k hk),hh_⟩ ?_
 rintro m env h' ⟨w,i,suf,as,rfl,hwu,hsi,hns,has,hdr,hga,hold,he⟩
 obtain⟨env,rfl⟩:=he.ex
 clear he
 have hlen:=congrArg List.length hns
 rw[List.length_append]at hlen
 by_cases hw:36≤m
 ·have h1:=um (m / 36)
  have h2:(iW m).length=(iW (m / 36)).length+1:=by rw[ka Ll];simp
  repeat' first|apply ac|(apply gw;first|refine aq rfl ?_|(apply gq3;first|refine jj rfl rfl rfl Ll Ll ?_|(refine iy rfl rfl rfl ?_ ?_<;>(intro hc;try omega))|refine If rfl rfl rfl Ll Ll ?_|refine Ij rfl rfl rfl Ll Ll ?_|refine Ig rfl rfl Ll Ll Ll ?_)|refine bh (v:=AV.int _ _) rfl rfl hg_ rfl rfl b_ sv_ ?_|refine sd rfl rfl Ll (by first|(simp;done)|(simp;omega)|omega) rfl ?_|refine nP rfl rfl Ll Ll rfl ?_)|(apply gx;first|apply af|refine ae rfl ?_|apply ay|apply al|refine ak rfl ?_)|apply aa|apply aI
  rw[show((i:Int)-1)=((i-1:Nat):Int) by omega]
  refine fp (m / 36) Ll ⟨m / 36,i-1,jS (m%36)::suf,_,rfl,by omega,by simp;omega,?_,by rw[List.length_set];exact has,?_,ad.get_set_self _ _ _,fun k hk=>(ad.get_set_ne _ _ (hfr k hk)).trans (hold k hk),hh_⟩
  ·rw[← hns,ka (show ¬ m<36 by omega)]
   simp
  ·rw[Int.toNat_natCast,Nat.mul_one,show((m:Int)-(m:Int) / 36*36).toNat=m%36 by omega]
   exact rc has ⟨by omega,by omega⟩ hdr
 ·have hi:(iW m).length=1:=by rw[jP Ll];rfl
  have e1:iW u=jS m::suf:=by rw[← hns,jP Ll];rfl
  repeat' first|apply ac|(apply gw;first|(apply gq0;first|refine aq rfl ?_|refine bl rfl ?_|refine au rv_ ?_)|(apply gq3;first|refine jj rfl rfl rfl Ll Ll ?_|(refine iy rfl rfl rfl ?_ ?_<;>(intro hc;try omega)))|refine bh (v:=AV.int _ _) rfl rfl hg_ rfl rfl b_ sv_ ?_|refine sd rfl rfl Ll (by first|(simp;done)|(simp;omega)|omega) rfl ?_|refine nP rfl rfl Ll Ll rfl ?_)|(apply gx;first|apply af|refine ae rfl ?_|apply ay|apply aN|refine ak rfl ?_|refine ai rfl ?_)|apply aa|apply aO|apply aP|apply aX
  rw[show((i:Int)-1)=((i-1:Nat):Int) by omega]
  have hd:=rc (d:=jS m) has ⟨by omega,by omega⟩ hdr
  rw[← e1]at hd
  refine xy rfl rfl (ad.get_set_self _ _ _) (by rw[List.length_set,has];exact Nat.le_refl _) Ll Ll ?_
  have hrow2:∀ ob,aD (h'.set id ob) v 1 n cs:=fun ob=>hrow.keep fun k hk=>(ad.get_set_ne _ _ (hfr k (hrow.there hk))).trans (hold k (hrow.there hk))
  refine iU (n:=n) (m:=(iW u).length) (new:=bn (iW u)) (w := .own id 0 1 _ _ _) rfl (hrow2 _) rfl (vu (ad.get_set_self _ _ _) ?_ ?_ ?_) (by rw[nn,Nat.mul_one]) Ll ?_
  ·rw[e1];simp;omega
  ·rw[List.length_set,has];omega
  ·simp only[Int.toNat_natCast,Nat.mul_one]
   refine(congrArg (List.take _) hd).trans (List.take_of_length_le ?_)
   rw[nn,e1];simp;omega
  ·intro va hb hra hka hia
   repeat' first|apply ac|refine au rv_ ?_|apply aM|apply aa|apply cp
   refine aJ (v := .tup [va,.str []]) (zm rfl rfl hra.notTup rfl) ⟨va,rfl,hra,fun k hk hv=>(hka k ?_ hv).trans ((ad.get_set_ne _ _ (hfr k hk)).trans (hold k hk)),fun k hk=>?_⟩
   ·rw[ad.get_set_ne _ _ (hfr k hk),hold k hk]
    exact hk
   ·rcases hia k hk with h|h
    ·exact .inl h
    ·right
     apply Classical.byContradiction
     intro hne
     rw[ad.get_set_ne _ _ (hfr k hne),hold k hne]at h
     exact hne h
theorem pO {Φ:Lib}(L:cJ Φ){h:ad}{v:AV}{n:Nat}{cs:List AV}(hrow:aD h v 1 n cs)(hn:n≤2147483648)(u:Nat)(hu:u<18446744073709551616) :
  bc Φ 127 [v,.int .u64 u,.int .i64 36] h (fun va h'=>aD h' va 1 (n+(iW u).length) (cs++bn (iW u))∧(∀ id,h.get id≠none→v.rowId≠some id→h'.get id=h.get id)∧(∀ id,va.rowId=some id→v.rowId=some id∨h.get id=none)):=by
 have hnt:=hrow.notTup
 refine ba (fun _=>false) rfl L.f127 ?_
 repeat' first|apply ac|(apply gw;first|(apply gq0;first|refine aq rfl ?_|refine aG rfl ?_|refine au rv_ ?_)|(refine dd rfl rfl rfl ?_ ?_<;>(intro hc;try omega))|refine aH rfl nt_ ?_)|(apply gx;first|apply af|refine ae rfl ?_|apply ay|refine ai rfl ?_)|apply aa
 refine ci (vH L hrow hn u hu) ?_
 rintro _ h' ⟨va,rfl,h1,h2,h3⟩
 have hnt2:=h1.notTup
 repeat' first|apply ac|(apply gw;first|(apply gq0;first|refine au (v:=AV.tup _) rfl ?_|refine au rv_ ?_)|refine ce rfl rfl ?_)|(apply gx;first|apply af|refine ae rfl ?_|apply aM)|apply aa
 exact aJ rfl ⟨h1,h2,h3⟩
theorem yD {Φ:Lib}(L:cJ Φ){h:ad}{v:AV}{n:Nat}{cs:List AV}(hrow:aD h v 1 n cs)(hn:n≤1073741824)(x:Int)(hx1 : -9223372036854775808≤x)(hx2:x≤9223372036854775807) :
  bc Φ 124 [v,.int .i64 x,.int .i64 36] h (fun va h'=>aD h' va 1 (n+(dP x).length) (cs++bn (dP x))∧(∀ id,h.get id≠none→v.rowId≠some id→h'.get id=h.get id)∧(∀ id,va.rowId=some id→v.rowId=some id∨h.get id=none)):=by
 have hnt:=hrow.notTup
 refine ba (fun _=>false) rfl L.f124 ?_
 by_cases hx:x<0
 ·apply af
  repeat' first|apply ac|(apply gq0;first|refine aq rfl ?_|refine aG rfl ?_)|(apply gx;first|apply af|refine ae rfl ?_)|apply aa
  refine xC rfl hx hx1 ?_
  repeat' first|apply ac|(apply gw;first|(apply gq0;first|refine aq rfl ?_|refine au rv_ ?_)|(refine aA rfl rfl rfl ?_ ?_<;>(intro hc;try omega))|(refine aY (m:=1) rv_ ir_ rfl rfl Ll ?_;intro va hpa hra hka hria)|refine bj (cs:=[AV.int _ _]) rfl rfl ?_)|(apply gx;first|apply af|refine ae rfl ?_|refine ak rfl ?_)|apply aa
  refine Ii rfl Ll Ll ?_
  repeat' first|apply ac|(apply gw;first|(apply gq0;first|refine aq rfl ?_|refine au rv_ ?_)|refine aH rfl nt_ ?_)|(apply gx;first|apply af|refine ae rfl ?_)|apply aa
  have e1:18446744073709551616-(x+18446744073709551616)=(x.natAbs:Int):=by omega
  rw[e1]
  refine ci (pO L hra Ll x.natAbs Ll) ?_
  rintro va2 h2 ⟨k1,k2,k3⟩
  have hnt2:=k1.notTup
  repeat' first|apply ac|refine au rv_ ?_|apply aM|apply aa
  have e2:dP x=45::iW x.natAbs:=by rw[dP,if_pos hx]
  refine aJ rfl ⟨?_,fun k hk hv=>?_,fun k hk=>?_⟩
  ·rw[e2]
   rw[show n+(45::iW x.natAbs).length=n+1+(iW x.natAbs).length by simp;omega]
   have e3:cs++bn (45::iW x.natAbs)=cs++[AV.int .u8 45]++bn (iW x.natAbs):=by simp[bn]
   rw[e3]
   exact k1
  ·rw[k2 k (by rw[hka k hk hv];exact hk) fun e=>?_,hka k hk hv]
   rcases hria k e with h|h
   ·exact hv h
   ·exact hk h
  ·rcases k3 k hk with h|h
   ·exact hria k h
   ·by_cases hv:v.rowId=some k
    ·exact .inl hv
    ·right
     apply Classical.byContradiction
     intro hne
     rw[hka k hne hv]at h
     exact hne h
 ·have e2:dP x=iW x.natAbs:=by rw[dP,if_neg hx]
  repeat' first|apply ac|(apply gw;first|(apply gq0;first|refine aq rfl ?_|refine aG rfl ?_|refine au rv_ ?_)|(refine aA rfl rfl rfl ?_ ?_<;>(intro hc;try omega))|refine aH rfl nt_ ?_|refine tE rfl Ll Ll ?_)|(apply gx;first|apply af|refine ae rfl ?_|apply ay|refine ai rfl ?_)|apply aa
  have e1:x=(x.natAbs:Int):=by omega
  rw[e1]
  refine ci (pO L hrow Ll x.natAbs Ll) ?_
  rintro va2 h2 ⟨k1,k2,k3⟩
  have hnt2:=k1.notTup
  repeat' first|apply ac|refine au rv_ ?_|apply aM|apply aa
  rw[← e1,e2]
  exact aJ rfl ⟨k1,k2,k3⟩
theorem kC {Φ:Lib}(L:cJ Φ){h:ad}{v:AV}{n:Nat}{cs:List AV}(hrow:aD h v 1 n cs)(hn:n≤1073741824)(x:Int)(hx1 : -9223372036854775808≤x)(hx2:x≤9223372036854775807) :
  bc Φ 118 [v,.int .i64 x,.int .i64 36] h (fun va h'=>aD h' va 1 (n+(dP x).length) (cs++bn (dP x))∧(∀ id,h.get id≠none→v.rowId≠some id→h'.get id=h.get id)∧(∀ id,va.rowId=some id→v.rowId=some id∨h.get id=none)):=by
 have hnt:=hrow.notTup
 refine ba (fun _=>false) rfl L.f118 ?_
 repeat' first|apply ac|(apply gw;first|(apply gq0;first|refine aq rfl ?_|refine aG rfl ?_|refine au rv_ ?_)|refine aH rfl nt_ ?_)|(apply gx;first|apply af|refine ae rfl ?_)|apply aa
 refine ci (yD L hrow hn x hx1 hx2) ?_
 rintro va h' ⟨h1,h2,h3⟩
 have hnt2:=h1.notTup
 repeat' first|apply ac|refine au rv_ ?_|apply aM|apply aa
 exact aJ rfl ⟨h1,h2,h3⟩
end
section
open Go
set_option maxHeartbeats 4000000
attribute [local irreducible] az bf bm de bz cw dH bJ wop cz bc
structure Dfa where
 parts:Rw (Rw aj)
 next:Rw (Rw Int)
 tags:Rw Int
@[reducible] def Rw.sv (r:Rw aj):AV:=r.av aj.av
@[reducible] def Dfa.av (d:Dfa):List AV:=[d.parts.mv Rw.sv,d.next.mv Rw.iv,d.tags.iv]
@[simp] theorem K1 (l:List (Rw aj)):AV.frozenL (l.map Rw.sv)=true:=eI (fun r=>by simp[AV.frozen]) l
@[simp] theorem K6 (d:Dfa):AV.frozenL d.av=true:=by simp[Dfa.av,AV.frozenL,AV.frozen]
def bG (K:List Int)(to:Int):Int:=if to = -1 then -1 else K.getD to.toNat 0
def WAt (h:ad)(id:Nat)(d:Dfa)(K:Rw Int):Prop:=h.get id=some (.cells 0 [d.parts.mv Rw.sv,d.next.mv Rw.iv,d.tags.iv,K.iv])
theorem WAt.keep {h h':ad}{id:Nat}{d:Dfa}{K:Rw Int}(hw:WAt h id d K)(hk:h'.get id=h.get id):WAt h' id d K:=hk.trans hw
theorem ta {Φ:Lib}(L:cJ Φ){h:ad}{id:Nat}{d:Dfa}{K:Rw Int}(hw:WAt h id d K)(to:Int)(ht:to = -1∨0≤to∧to.toNat<K.l.length) :
  bc Φ 107 [.ptr id 0 0,.int .i64 to] h (fun v h'=>v = .int .i64 (bG K.l to)∧h.Ext h'):=by
 have hw':h.get id=some (.cells 0 [d.parts.mv Rw.sv,d.next.mv Rw.iv,d.tags.iv,K.iv]):=hw
 refine ba (fun _=>false) rfl L.f107 ?_
 by_cases h1:to = -1
 ·subst h1
  repeat' first|apply ac|(apply gw;first|refine aq rfl ?_|(refine dd rfl rfl rfl ?_ ?_<;>(intro hc;try omega)))|(apply gx;first|apply af|refine ae rfl ?_|apply aM|refine ak rfl ?_)|apply aa|apply cp|refine aJ (v:=AV.int _ _) rfl ?_
  exact⟨rfl,ad.Ext.refl _⟩
 ·obtain⟨x,hx⟩:∃ x,K.l[to.toNat]?=some x:=⟨_,List.getElem?_eq_getElem Ll⟩
  repeat' first|apply ac|(apply gw;first|(apply gq0;first|refine aq rfl ?_|refine au (v:=AV.ptr _ _ _) rfl ?_)|(apply gq2;first|refine aB rfl b_ pv_ ?_|refine am rfl hg_ Lm b_ pv_ ?_)|(refine dd rfl rfl rfl ?_ ?_<;>(intro hc;try omega))|refine ar rfl (Nat.zero_add _) ?_|refine ah rfl rfl hx Ll rfl ?_|refine br rfl ?_)|(apply gx;first|apply af|refine ae rfl ?_|apply ay|apply aM|refine ai rfl ?_)|apply aa|refine aJ (v:=AV.int _ _) rfl ?_
  exact⟨by simp[bG,h1,List.getD_eq_getElem?_getD,hx],ad.Ext.refl _⟩
structure Dfa.Fit (d:Dfa)(K:Rw Int):Prop where
 kl:K.l.length=d.next.l.length
 tl:d.tags.l.length=d.next.l.length
 n1:1≤d.next.l.length
 n2:d.next.l.length≤2000
 p2:d.parts.l.length≤2000
 rows:∀ r∈d.next.l,r.l.length=d.parts.l.length
 to:∀ r∈d.next.l,∀ x∈r.l,x = -1∨0≤x∧x.toNat<d.next.l.length
 kr:∀ x∈K.l,-2147483648≤x∧x≤2147483647
theorem oy {d:Dfa}{K:Rw Int}(hf:d.Fit K)(to:Int) : -2147483648≤bG K.l to∧bG K.l to≤2147483647:=by
 unfold bG
 split
 ·omega
 ·rw[List.getD_eq_getElem?_getD]
  cases hx:K.l[to.toNat]? with
  | none=>simp
  | some x=>exact hf.kr x (List.mem_of_getElem? hx)
theorem JN {u:Nat}(h:u<2821109907456):(iW u).length≤8:=sn 7 u (Nat.lt_of_lt_of_le h (by decide))
theorem rP {x:Int}(h1 : -2147483648≤x)(h2:x≤2147483647):(dP x).length≤9:=by
 have:=JN (u:=x.natAbs) Ll
 unfold dP
 split
 ·simp;omega
 ·omega
theorem pC {l:List Int}(h:∀ x∈l,-2147483648≤x∧x≤2147483647):(cq l).length≤10*l.length:=by
 induction l with
 | nil=>simp[cq]
 | cons x l ih =>
  have h1:=ih fun y hy=>h y (by simp[hy])
  have h2:=h x Lm
  have h3:=rP h2.1 h2.2
  simp only[cq,List.flatMap_cons,List.length_append,List.length_cons]at h1 ⊢
  omega
theorem pD (l m:List Int):cq (l++m)=cq l++cq m:=by simp[cq]
theorem fJ (l m:List UInt8):bn (l++m)=bn l++bn m:=by simp[bn]
theorem Ia {Φ:Lib}(L:cJ Φ){h:ad}{id:Nat}{d:Dfa}{K:Rw Int}(hw:WAt h id d K)(hf:d.Fit K){s:Nat}{k:Int}{row:Rw Int}(hk:K.l[s]?=some k)(hr:d.next.l[s]?=some row) :
  bc Φ 123 [.ptr id 0 0,.int .i64 s] h (fun v h'=>v = .str (dP k++cq (row.l.map (bG K.l)))∧h.Ext h'):=by
 have hw':h.get id=some (.cells 0 [d.parts.mv Rw.sv,d.next.mv Rw.iv,d.tags.iv,K.iv]):=hw
 have hs:=lt_of_getElem? hk
 have hs2:=lt_of_getElem? hr
 have hkr:=hf.kr k (List.mem_of_getElem? hk)
 have hk9:=rP hkr.1 hkr.2
 have hrl:=hf.rows row (List.mem_of_getElem? hr)
 have hp2:=hf.p2
 refine ba (fun _=>false) rfl L.f123 ?_
 repeat' first|apply ac|(apply gw;first|(apply gq0;first|refine aq rfl ?_|refine au (v:=AV.ptr _ _ _) rfl ?_|refine au (v:=AV.str _) rfl ?_)|(apply gq2;first|refine aB rfl b_ pv_ ?_|refine am rfl hg_ Lm b_ pv_ ?_)|refine ar rfl (Nat.zero_add _) ?_|refine ah rfl rfl hk Ll rfl ?_|refine br rfl ?_|refine aH rfl nt_ ?_)|(apply gx;first|apply af|refine ae rfl ?_)|apply aa
 refine ci (kC L (aD.nil _ _) Ll k Ll Ll) ?_
 rintro v0 h0 ⟨hv0,hk0,hi0⟩
 have hold0:∀ k,h.get k≠none→h0.get k=h.get k:=fun k hk=>hk0 k hk (by simp[AV.rowId])
 have hid:h.get id≠none:=by rw[hw'];simp
 have hw0:=(hold0 id hid).trans hw'
 have hnt:=hv0.notTup
 repeat' first|apply ac|(apply gw;first|(apply gq0;first|refine aq rfl ?_|refine au (v:=AV.ptr _ _ _) rfl ?_|refine au rv_ ?_)|(apply gq2;first|refine aB rfl b_ pv_ ?_|refine am rfl hg_ Lm b_ pv_ ?_)|refine ar rfl (Nat.zero_add _) ?_|refine ah rfl rfl hr Ll rfl ?_|refine aw rfl ?_|refine br rfl ?_)|(apply gx;first|apply af|refine ae rfl ?_|apply al)|apply aa
 rw[Nat.zero_add,List.nil_append]at hv0
 refine bD row.l.length (fun i env h'=>∃ v,aD h' v 1 (dP k++cq ((row.l.take i).map (bG K.l))).length (bn (dP k++cq ((row.l.take i).map (bG K.l))))∧(∀ k,h.get k≠none→h'.get k=h.get k)∧(∀ k,v.rowId=some k→h.get k=none)∧env.has [(0,.ptr id 0 0),(5,v),(23,row.iv),(24,.int .i64 row.l.length),(25,.int .i64 i)]) ⟨v0,by simpa[cq] using hv0,hold0,fun k hk=>(hi0 k hk).resolve_left (by simp[AV.rowId]),hh_⟩ ?_
 rintro i env h' hi ⟨v,hv,hold,hown,he⟩
 obtain⟨env,rfl⟩:=he.ex
 clear he
 have hw1:=(hold id hid).trans hw'
 have hnt:=hv.notTup
 have hlen:(dP k++cq ((row.l.take i).map (bG K.l))).length≤20009:=by
  rw[List.length_append]
  have h1:(cq ((row.l.take i).map (bG K.l))).length≤10*((row.l.take i).map (bG K.l)).length:=pC fun x hx=>by
   obtain⟨y,_,rfl⟩:=List.mem_map.1 hx
   exact oy hf y
  rw[List.length_map,List.length_take]at h1
  omega
 by_cases hi2:i<row.l.length
 ·obtain⟨x,hx⟩:=aK hi2
  have hxo:=hf.to row (List.mem_of_getElem? hr) x (List.mem_of_getElem? hx)
  repeat' first|apply ac|(apply gw;first|(apply gq0;first|refine aq rfl ?_|refine au (v:=AV.ptr _ _ _) rfl ?_|refine au rv_ ?_)|refine aB rfl b_ pv_ ?_|(refine aA rfl rfl rfl ?_ ?_<;>(intro hc;try omega))|refine ah rfl rfl hx Ll rfl ?_|refine aH rfl nt_ ?_|(refine aY (m:=1) rv_ ir_ rfl rfl Ll ?_;intro va hpa hra hka hria)|refine bj (cs:=[AV.int _ _]) rfl rfl ?_)|(apply gx;first|apply af|refine ae rfl ?_|apply ay|apply al|refine ak rfl ?_)|apply aa
  have hne:∀ k,h.get k≠none→v.rowId≠some k:=fun k hk hv=>hk (hown k hv)
  have hold2:∀ k,h.get k≠none→hpa.get k=h.get k:=fun k hk=>(hka k (by rw[hold k hk];exact hk) (hne k hk)).trans (hold k hk)
  have hw2:=(hold2 id hid).trans hw'
  refine kL Ll (ta L (K:=K) hw2 x (by rw[hf.kl];exact hxo)) ?_
  repeat' first|refine aH rfl nt_ ?_
  have hkx:=oy hf x
  refine ci (kC L hra Ll (bG K.l x) Ll Ll) ?_
  rintro v2 h2 ⟨hv2,hk2,hi2'⟩
  have hnt2:=hv2.notTup
  have hka2:∀ k,va.rowId=some k→h.get k=none:=fun k hk=>by
   rcases hria k hk with h|h
   ·exact hown k h
   ·apply Classical.byContradiction
    intro hne
    rw[hold k hne]at h
    exact hne h
  repeat' first|apply ac|(apply gw;first|(apply gq0;first|refine aq rfl ?_|refine au rv_ ?_)|refine aT rfl rfl rfl Ll Ll ?_)|refine ae rfl ?_|apply aa|apply aI
  refine aR hi2 ⟨v2,?_,fun k hk=>(hk2 k (by rw[hold2 k hk];exact hk) fun e=>hk (hka2 k e)).trans (hold2 k hk),fun k hk=>?_,hh_⟩
  ·have e1:dP k++cq ((row.l.take (i+1)).map (bG K.l))=(dP k++cq ((row.l.take i).map (bG K.l)))++(32::dP (bG K.l x)):=by
    rw[List.take_add_one,hx,List.map_append,pD,List.append_assoc]
    simp[cq]
   rw[e1,fJ,List.length_append]
   have e2:bn (32::dP (bG K.l x))=[AV.int .u8 32]++bn (dP (bG K.l x)):=rfl
   rw[e2,← List.append_assoc,List.length_cons,Nat.add_comm _ 1,← Nat.add_assoc]
   exact hv2
  ·rcases hi2' k hk with h|h
   ·exact hka2 k h
   ·apply Classical.byContradiction
    intro hne
    rw[hold2 k hne]at h
    exact hne h
 ·have hii:i=row.l.length:=by omega
  rw[List.take_of_length_le Ll]at hv
  have hns:v.isStr=false:=by rcases hv with⟨rfl,_⟩|⟨_,_,rfl,_⟩<;>rfl
  repeat' first|apply ac|(apply gw;first|refine au rv_ ?_|(refine aA rfl rfl rfl ?_ ?_<;>(intro hc;try omega)))|(apply gx;first|apply af|refine ae rfl ?_|apply aN|refine ai rfl ?_)|apply aa|apply aO|apply aP|apply aX
  refine lP rfl hns (gd hv) ?_
  repeat' first|apply ac|refine au (v:=AV.str _) rfl ?_|apply aM|apply aa
  refine aJ rfl ⟨rfl,fun k o e=>?_⟩
  exact(hold k (by rw[e];simp)).trans e
end
end Go.Proofs.YtlnobeojgifojaaGreatDoor
