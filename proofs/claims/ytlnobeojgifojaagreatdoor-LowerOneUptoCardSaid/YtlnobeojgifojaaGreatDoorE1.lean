/- Single steps: unsigned numbers, strings, arrays, maps. Numbers as texts, by base 36. A machine at one place, being made least: kinds, texts. -/
import Derived.Test.YtlnobeojgifojaaGreatDoorB2
import Derived.Test.YtlnobeojgifojaaGreatDoorCC
import Derived.Test.YtlnobeojgifojaaGreatDoorD7
set_option linter.unusedVariables false
set_option linter.unusedSimpArgs false
namespace Go.Proofs.YtlnobeojgifojaaGreatDoor
section
open Go
def bd (s:List UInt8):List AV:=s.map fun b => .int .u8 b.toNat
theorem lM (s:List UInt8):(bd s).length=s.length:=by simp[bd]
theorem tk (s:List UInt8):kZ (bd s)=some s:=by
 induction s with
 | nil=>rfl
 | cons b s ih =>
  have:bd (b::s) = .int .u8 b.toNat::bd s:=rfl
  rw[this,kZ,ih]
  simp
section
variable {F:bR} {r:List bA} {Q:Env→aa→Prop} {env:Env} {h:aa} {d:Nat} {x y z c:bl}
theorem EY {a b s}(hx:ev env x = .int .u64 a)(hy:ev env y = .int .u64 b)(hs:a-b=s)(h1:0≤s)(h2:s≤18446744073709551615)(k:aj F r Q (env.put d (.int .u64 s)) h):aj F (⟨some d,.bin .sub x y,none⟩::r) Q env h:=by
 subst hs
 have:IntKind.u64.wrap (a-b)=a-b:=by simp[IntKind.wrap,IntKind.bits,IntKind.signed];omega
 simp[hx,hy,this,k]
theorem E2 {a b s}(hx:ev env x = .int .u64 a)(hy:ev env y = .int .u64 b)(hs:a*b=s)(h1:0≤s)(h2:s≤18446744073709551615)(k:aj F r Q (env.put d (.int .u64 s)) h):aj F (⟨some d,.bin .mul x y,none⟩::r) Q env h:=by
 subst hs
 have:IntKind.u64.wrap (a*b)=a*b:=by simp[IntKind.wrap,IntKind.bits,IntKind.signed];omega
 simp[hx,hy,this,k]
theorem EZ {a b}(hx:ev env x = .int .u64 a)(hy:ev env y = .int .u64 b)(h0:0≤a)(h1:0<b)(h2:a≤18446744073709551615)(k1:aj F r Q (env.put d (.int .u64 (a / b))) h):aj F (⟨some d,.bin .quo x y,none⟩::r) Q env h:=by
 have hb:b≠0:=by omega
 have e:a.tdiv b=a / b:=Int.tdiv_eq_ediv_of_nonneg h0
 have l1:0≤a / b:=Int.ediv_nonneg h0 HT
 have l2:a / b≤a:=Int.ediv_le_self b h0
 have:IntKind.u64.wrap (a.tdiv b)=a / b:=by rw[e];simp[IntKind.wrap,IntKind.bits,IntKind.signed];omega
 simp[hx,hy,hb,this,k1]
theorem rh {k a}(hx:ev env x = .int k a)(h0:0≤a)(h1:a≤18446744073709551615)(k1:aj F r Q (env.put d (.int .u64 a)) h):aj F (⟨some d,.conv .u64 x,none⟩::r) Q env h:=by
 have:IntKind.u64.wrap a=a:=by simp[IntKind.wrap,IntKind.bits,IntKind.signed];omega
 simp[hx,this,k1]
theorem uP {k a}(hx:ev env x = .int k a)(h0:a<0)(h1 : -9223372036854775808≤a)(k1:aj F r Q (env.put d (.int .u64 (a+18446744073709551616))) h):aj F (⟨some d,.conv .u64 x,none⟩::r) Q env h:=by
 have:IntKind.u64.wrap a=a+18446744073709551616:=by simp[IntKind.wrap,IntKind.bits,IntKind.signed];omega
 simp[hx,this,k1]
theorem E1 {a}(hx:ev env x = .int .u64 a)(h0:0<a)(h1:a≤18446744073709551615)(k1:aj F r Q (env.put d (.int .u64 (18446744073709551616-a))) h):aj F (⟨some d,.un .neg x,none⟩::r) Q env h:=by
 have:IntKind.u64.wrap (-a)=18446744073709551616-a:=by simp[IntKind.wrap,IntKind.bits,IntKind.signed];omega
 simp[hx,this,k1]
theorem pX {s k j b}(hx:ev env x = .str s)(hy:ev env y = .int k j)(h0:0≤j)(h1:j<s.length)(hb:s.getD j.toNat 0=b)(k1:aj F r Q (env.put d (.int .u8 b.toNat)) h):aj F (⟨some d,.indexStr x y,none⟩::r) Q env h:=by
 subst hb
 have:j<s.length:=h1
 simp only[bE,uB,aF,hx,hy,bv]
 rw[if_pos ⟨h0,h1⟩]
 exact k1
theorem ma {n e id g o k j s}(hx:ev env x = .ptr id g o)(hy:ev env y = .int k j)(h0:0≤j)(h1:j<(n:Nat))(hs:o+j.toNat*e=s)(k1:aj F r Q (env.put d (.ptr id g s)) h):aj F (⟨some d,.indexAddrA n e x y,none⟩::r) Q env h:=by
 subst hs
 simp only[bE,qU,aF,hx,hy,bv]
 rw[if_pos ⟨h0,h1⟩]
 exact k1
theorem uM {n e id g k j cs}(hx:ev env x = .ptr id g 0)(hy:ev env y = .int k j)(hg:h.get id=some (.cells g cs))(hl:n*e≤cs.length)(h0:0≤j)(h1:j≤(n:Nat))(k1:aj F r Q (env.put d (.own id g e j.toNat (n-j).toNat (some (n-j.toNat)))) h):aj F (⟨some d,.sliceA n e x (some y) none,none⟩::r) Q env h:=by
 simp only[bE,xW,aT,hx,hy,hg,bv,d4,Option.bind_some]
 rw[if_pos ⟨trivial,hl,h0,h1,Int.le_refl _⟩]
 exact k1
theorem kh {v m s}(hx:ev env x=v)(hi:v.isStr=false)(hs:bn h 1 v=some (m,bd s))(k1:aj F r Q (env.put d (.str s)) h):aj F (⟨some d,.strOf x,none⟩::r) Q env h:=by
 simp only[bE,Ac,aT,hx,hs,bv,hi,Option.bind_some,tk,Option.map_some]
 exact k1
theorem ki {kk}(k1:∀ id,h.get id=none→aj F r Q (env.put d (.map id)) (h.set id (.map kk []))):aj F (⟨some d,.mkmap kk,none⟩::r) Q env h:=by
 simp only[bE,Ad,bv]
 exact k1
theorem kn {id kk es}(hx:ev env x = .map id)(hg:h.get id=some (.map kk es))(k1:aj F r Q (env.put d (.int .i64 es.length)) h):aj F (⟨some d,.len 2 x,none⟩::r) Q env h:=by
 simp only[bE,zp,aT,hx,hg,bv]
 exact k1
theorem tJ {kk zero id es key}(hx:ev env x = .map id)(hy:ev env y=key)(hk:jd kk key=true)(hg:h.get id=some (.map kk es))(k1:aj F r Q (env.put d ((gu es key).getD zero)) h):aj F (⟨some d,.lookup kk zero false x y,none⟩::r) Q env h:=by
 simp only[bE,qS,aT,hx,hy,hg,bv,hk,if_true]
 exact k1
theorem gV {kk zero id es key}(hx:ev env x = .map id)(hy:ev env y=key)(hk:jd kk key=true)(hg:h.get id=some (.map kk es))(k1:aj F r Q (env.put d (.tup [(gu es key).getD zero,.bool (gu es key).isSome])) h):aj F (⟨some d,.lookup kk zero true x y,none⟩::r) Q env h:=by
 simp only[bE,qS,aT,hx,hy,hg,bv,hk,if_true]
 exact k1
theorem fQ {kk id es key v}(hx:ev env x = .map id)(hy:ev env y=key)(hz:ev env z=v)(hk:jd kk key=true)(hv:v.isVal=true)(hg:h.get id=some (.map kk es))(k1:aj F r Q env (h.set id (.map kk (kH es key v)))):aj F (⟨none,.update kk x y z,none⟩::r) Q env h:=by
 simp only[bE,xV,cL,hx,hy,hz,hg,hk,hv,and_self,if_true,p8]
 exact k1
end
end
section
open Go
set_option maxHeartbeats 4000000
attribute [local irreducible] aj bc bj dn bz cn dz bL wop cq aU
def GC:List UInt8:=[48,49,50,51,52,53,54,55,56,57,97,98,99,100,101,102,103,104,105,106,107,108,109,110,111,112,113,114,115,116,117,118,119,120,121,122]
def iJ (n:Nat):UInt8:=GC.getD n 0
def gK (u:Nat):List UInt8:=if h:u<36 then [iJ u] else gK (u / 36)++[iJ (u%36)]
termination_by u
decreasing_by omega
def cX (x:Int):List UInt8:=if x<0 then 45::gK x.natAbs else gK x.natAbs
theorem iE {u:Nat}(h:u<36):gK u=[iJ u]:=by rw[gK,dif_pos h]
theorem jc {u:Nat}(h:¬ u<36):gK u=gK (u / 36)++[iJ (u%36)]:=by rw[gK,dif_neg h]
theorem rY (u:Nat):1≤(gK u).length:=by
 by_cases h:u<36
 ·rw[iE h];simp
 ·rw[jc h];simp
theorem qe (k:Nat):∀ u:Nat,u<36 ^ (k+1)→(gK u).length≤k+1:=by
 induction k with
 | zero=>intro u h;rw[iE (by simpa using h)];simp
 | succ k ih =>
  intro u h
  by_cases h1:u<36
  ·rw[iE h1];simp
  ·rw[jc h1]
   have:=ih (u / 36) (by rw[Nat.div_lt_iff_lt_mul HT];rw[Nat.pow_succ]at h;exact h)
   simp
   omega
theorem Fl {u:Nat}(h:u<18446744073709551616):(gK u).length≤13:=qe 12 u (Nat.lt_of_lt_of_le h (by decide))
theorem uk:∀ a,a<36→∀ b,b<36→iJ a=iJ b→a=b:=by decide
theorem xu:∀ a,a<36→iJ a≠32∧iJ a≠45:=by decide
theorem qG {u:Nat}:∀ c∈gK u,c≠32∧c≠45:=by
 induction u using Nat.strongRecOn with
 | ind u ih =>
  by_cases h:u<36
  ·rw[iE h]
   intro c hc
   obtain rfl:=List.mem_singleton.1 hc
   exact xu u h
  ·rw[jc h]
   intro c hc
   rcases List.mem_append.1 hc with hc|hc
   ·exact ih (u / 36) HT c hc
   ·obtain rfl:=List.mem_singleton.1 hc
    exact xu _ (Nat.mod_lt _ HT)
theorem xa {u v:Nat}(e:gK u=gK v):u=v:=by
 induction u using Nat.strongRecOn generalizing v with
 | ind u ih =>
  by_cases h:u<36<;>by_cases h2:v<36
  ·rw[iE h,iE h2]at e
   exact uk u h v h2 (by simpa using e)
  ·rw[iE h,jc h2]at e
   have h3:=congrArg List.length e
   have h4:=rY (v / 36)
   simp only[List.length_append,List.length_cons,List.length_nil]at h3
   omega
  ·rw[jc h,iE h2]at e
   have h3:=congrArg List.length e
   have h4:=rY (u / 36)
   simp only[List.length_append,List.length_cons,List.length_nil]at h3
   omega
  ·rw[jc h,jc h2]at e
   obtain⟨e1,e2⟩:=List.append_inj' e rfl
   have:=ih (u / 36) HT e1
   have:=uk _ (Nat.mod_lt _ HT) _ (Nat.mod_lt _ HT) (by simpa using e2)
   omega
theorem qI {x:Int}:∀ c∈cX x,c≠32:=by
 intro c hc
 unfold cX at hc
 split at hc
 ·rcases List.mem_cons.1 hc with rfl|hc
  ·decide
  ·exact(qG c hc).1
 ·exact(qG c hc).1
theorem mN {x y:Int}(e:cX x=cX y):x=y:=by
 unfold cX at e
 split at e<;>split at e
 ·have:=xa (List.cons.inj e).2
  omega
 ·have h1:(45:UInt8)∈gK y.natAbs:=e ▸ List.mem_cons_self
  exact absurd rfl (qG _ h1).2
 ·have h1:(45:UInt8)∈gK x.natAbs:=e.symm ▸ List.mem_cons_self
  exact absurd rfl (qG _ h1).2
 ·have:=xa e
  omega
def bZ (l:List Int):List UInt8:=l.flatMap fun x=>32::cX x
theorem tO {a b r s:List UInt8}(ha:∀ c∈a,c≠32)(hb:∀ c∈b,c≠32)(hr:∀ c,r.head?=some c→c=32)(hs:∀ c,s.head?=some c→c=32)(e:a++r=b++s):a=b∧r=s:=by
 induction a generalizing b with
 | nil =>
  cases b with
  | nil=>exact⟨rfl,e⟩
  | cons c b =>
   simp at e
   have h1:=hr c (by rw[e];rfl)
   exact absurd h1 (hb c HU)
 | cons x a ih =>
  cases b with
  | nil =>
   simp at e
   have h1:=hs x (by rw[← e];rfl)
   exact absurd h1 (ha x HU)
  | cons c b =>
   simp at e
   obtain⟨h1,h2⟩:=ih (fun c hc=>ha c (by simp[hc])) (fun c hc=>hb c (by simp[hc])) e.2
   exact⟨by rw[e.1,h1],h2⟩
theorem kO (l:List Int):∀ c,(bZ l).head?=some c→c=32:=by
 cases l with
 | nil=>intro c hc;cases hc
 | cons x l=>intro c hc;simp[bZ]at hc;exact hc.symm
theorem nU:∀ {l m:List Int},bZ l=bZ m→l=m
 | [],[],_=>rfl
 | [],_::_,e=>by simp[bZ]at e
 | _::_,[],e=>by simp[bZ]at e
 | x::l,y::m,e=>by
  have e1:cX x++bZ l=cX y++bZ m:=by
   simp only[bZ,List.flatMap_cons,List.cons_append]at e
   exact(List.cons.inj e).2
  obtain⟨h1,h2⟩:=tO qI qI (kO l) (kO m) e1
  rw[mN h1,nU h2]
theorem An {x y:Int}{l m:List Int}(e:cX x++bZ l=cX y++bZ m):x=y∧l=m:=by
 obtain⟨h1,h2⟩:=tO qI qI (kO l) (kO m) e
 exact⟨mN h1,nU h2⟩
theorem pb {as:List AV}{i:Nat}{suf:List UInt8}{d:UInt8}(has:as.length=65)(hi:1≤i∧i≤65)(hdr:as.drop i=bd suf):(as.set (i-1) (.int .u8 d.toNat)).drop (i-1)=bd (d::suf):=by
 rw[List.drop_set,if_neg HT,Nat.sub_self]
 rw[List.drop_eq_getElem_cons (by omega:i-1<as.length),List.set_cons_zero,show i-1+1=i by omega,hdr]
 rfl
theorem sT {h:aa}{id g e off len m:Nat}{lim:Option Nat}{cs new:List AV}(hg:h.get id=some (.cells g cs))(hm:len=m)(hl:(off+len)*e≤cs.length)(hn:(cs.drop (off*e)).take (len*e)=new):bn h e (.own id g e off len lim)=some (m,new):=by
 subst hm hn
 simp only[bn,hg]
 rw[if_pos ⟨trivial,trivial,hl⟩]
theorem wJ {env:Env}{h:aa}{a b:Nat}{v w:AV}(h1:env a=v)(h2:env b=w)(n1:v.isTup=false)(n2:w.isTup=false):ef env h [.tmp a,.tmp b]=some (.tup [v,w]):=by
 subst h1 h2
 have:ef env h [.tmp a,.tmp b]=if [env a,env b].all (fun x => !x.isTup)=true then some (.tup [env a,env b]) else none:=rfl
 rw[this,if_pos]
 rw[List.all_cons,List.all_cons,n1,n2]
 rfl
theorem Fd {Φ:Lib}(L:cZ Φ):ia Φ 146 [.int .i64 36] (.bool false):=by
 refine bb (fun _=>false) rfl L.f146 ?_
 repeat' first|apply ad|(apply gw;first|(apply gq0;first|refine aw rfl ?_|refine bV rfl ?_)|refine iq rfl rfl rfl HT HT ?_)|(apply gx;first|apply af|refine ae rfl ?_)|apply ac
 refine dV rfl (v := .int .i64 32) rfl ?_
 repeat' first|apply ad|(apply gw;first|refine bV rfl ?_|(refine dD rfl rfl rfl ?_ ?_<;>(intro hc;try omega)))|apply aM|apply ac|refine aH (v:=AV.bool _) rfl ?_
 rfl
theorem te {Φ:Lib}(L:cZ Φ){h:aa}{v:AV}{n:Nat}{cs:List AV}(hrow:aA h v 1 n cs)(hn:n≤2147483648)(u:Nat)(hu:u<18446744073709551616) :
  aU Φ 140 [v,.int .u64 u,.int .i64 36,.bool false,.bool true] h (fun v' h'=>∃ va,v' = .tup [va,.str []]∧aA h' va 1 (n+(gK u).length) (cs++bd (gK u))∧(∀ id,h.get id≠none→v.rowId≠some id→h'.get id=h.get id)∧(∀ id,va.rowId=some id→v.rowId=some id∨h.get id=none)):=by
 have hp:=Fd L
 have hnt:=hrow.notTup
 refine bb (fun _=>false) rfl L.f140 ?_
 repeat' first|apply ad|(apply gw;first|(apply gq0;first|refine aw rfl ?_|refine bV rfl ?_|refine bm rfl ?_|refine ai (v:=AV.str _) rfl ?_)|refine cD rfl ?_|(apply gq3;first|((first|refine aB rfl rfl rfl ?_ ?_|refine dS rfl rfl rfl ?_ ?_|refine dD rfl rfl rfl ?_ ?_)<;>(intro hc;try omega)))|refine bh rfl rfl ?_|refine aL rfl nt_ ?_|(refine cd ?_;intro id hid;try simp only[aa.set_none]at hid)|refine rh rfl HT HT ?_)|(apply gx;first|apply af|refine ae rfl ?_|apply ay|apply au|refine ah rfl ?_)|apply ac|refine bu (by assumption) fz_ fz_ ?_
 have h13:=Fl hu
 have hfr:∀ k,h.get k≠none→k≠id:=fun k hk e=>hk (e ▸ hid)
 refine ic (fun m env h'=>∃ (w i:Nat) (suf:List UInt8) (as:List AV),m=w∧w≤u∧suf.length+i=65∧gK w++suf=gK u∧as.length=65∧as.drop i=bd suf∧h'.get id=some (.cells 0 as)∧(∀ k,h.get k≠none→h'.get k=h.get k)∧env.has [(0,v),(1,.int .u64 w),(3,.bool false),(4,.bool true),(11,.str []),(12,.ptr id 0 0),(13,.int .i64 i),(17,.int .u64 36)]) u ⟨u,65,[],_,rfl,Nat.le_refl _,rfl,by simp,rfl,rfl,aa.get_set_self _ _ _,fun k hk=>aa.get_set_ne _ _ (hfr k hk),hh_⟩ ?_
 rintro m env h' ⟨w,i,suf,as,rfl,hwu,hsi,hns,has,hdr,hga,hold,he⟩
 obtain⟨env,rfl⟩:=he.ex
 clear he
 have hlen:=congrArg List.length hns
 rw[List.length_append]at hlen
 by_cases hw:36≤m
 ·have h1:=rY (m / 36)
  have h2:(gK m).length=(gK (m / 36)).length+1:=by rw[jc HT];simp
  repeat' first|apply ad|(apply gw;first|refine aw rfl ?_|(apply gq3;first|refine iq rfl rfl rfl HT HT ?_|(refine jq rfl rfl rfl ?_ ?_<;>(intro hc;try omega))|refine EY rfl rfl rfl HT HT ?_|refine E2 rfl rfl rfl HT HT ?_|refine EZ rfl rfl HT HT HT ?_)|refine aY (v:=AV.int _ _) rfl rfl hg_ rfl rfl b_ sv_ ?_|refine pX rfl rfl HT (by first|(simp;done)|(simp;omega)|omega) rfl ?_|refine ma rfl rfl HT HT rfl ?_)|(apply gx;first|apply af|refine ae rfl ?_|apply ay|apply au|refine al rfl ?_)|apply ac|apply aJ
  rw[show((i:Int)-1)=((i-1:Nat):Int) by omega]
  refine fo (m / 36) HT ⟨m / 36,i-1,iJ (m%36)::suf,_,rfl,by omega,by simp;omega,?_,by rw[List.length_set];exact has,?_,aa.get_set_self _ _ _,fun k hk=>(aa.get_set_ne _ _ (hfr k hk)).trans (hold k hk),hh_⟩
  ·rw[← hns,jc (show ¬ m<36 by omega)]
   simp
  ·rw[Int.toNat_natCast,Nat.mul_one,show((m:Int)-(m:Int) / 36*36).toNat=m%36 by omega]
   exact pb has ⟨by omega,by omega⟩ hdr
 ·have hi:(gK m).length=1:=by rw[iE HT];rfl
  have e1:gK u=iJ m::suf:=by rw[← hns,iE HT];rfl
  repeat' first|apply ad|(apply gw;first|(apply gq0;first|refine aw rfl ?_|refine bV rfl ?_|refine ai rv_ ?_)|(apply gq3;first|refine iq rfl rfl rfl HT HT ?_|(refine jq rfl rfl rfl ?_ ?_<;>(intro hc;try omega)))|refine aY (v:=AV.int _ _) rfl rfl hg_ rfl rfl b_ sv_ ?_|refine pX rfl rfl HT (by first|(simp;done)|(simp;omega)|omega) rfl ?_|refine ma rfl rfl HT HT rfl ?_)|(apply gx;first|apply af|refine ae rfl ?_|apply ay|apply aP|refine al rfl ?_|refine ah rfl ?_)|apply ac|apply aQ|apply aR|apply ba
  rw[show((i:Int)-1)=((i-1:Nat):Int) by omega]
  have hd:=pb (d:=iJ m) has ⟨by omega,by omega⟩ hdr
  rw[← e1]at hd
  refine uM rfl rfl (aa.get_set_self _ _ _) (by rw[List.length_set,has];exact Nat.le_refl _) HT HT ?_
  have hrow2:∀ ob,aA (h'.set id ob) v 1 n cs:=fun ob=>hrow.keep fun k hk=>(aa.get_set_ne _ _ (hfr k (hrow.there hk))).trans (hold k (hrow.there hk))
  refine gF (n:=n) (m:=(gK u).length) (new:=bd (gK u)) (w := .own id 0 1 _ _ _) rfl (hrow2 _) rfl (sT (aa.get_set_self _ _ _) ?_ ?_ ?_) (by rw[lM,Nat.mul_one]) HT ?_
  ·rw[e1];simp;omega
  ·rw[List.length_set,has];omega
  ·simp only[Int.toNat_natCast,Nat.mul_one]
   refine(congrArg (List.take _) hd).trans (List.take_of_length_le ?_)
   rw[lM,e1];simp;omega
  ·intro va hb hra hka hia
   repeat' first|apply ad|refine ai rv_ ?_|apply aM|apply ac|apply cz
   refine aH (v := .tup [va,.str []]) (wJ rfl rfl hra.notTup rfl) ⟨va,rfl,hra,fun k hk hv=>(hka k ?_ hv).trans ((aa.get_set_ne _ _ (hfr k hk)).trans (hold k hk)),fun k hk=>?_⟩
   ·rw[aa.get_set_ne _ _ (hfr k hk),hold k hk]
    exact hk
   ·rcases hia k hk with h|h
    ·exact .inl h
    ·right
     apply Classical.byContradiction
     intro hne
     rw[aa.get_set_ne _ _ (hfr k hne),hold k hne]at h
     exact hne h
theorem nS {Φ:Lib}(L:cZ Φ){h:aa}{v:AV}{n:Nat}{cs:List AV}(hrow:aA h v 1 n cs)(hn:n≤2147483648)(u:Nat)(hu:u<18446744073709551616) :
  aU Φ 127 [v,.int .u64 u,.int .i64 36] h (fun va h'=>aA h' va 1 (n+(gK u).length) (cs++bd (gK u))∧(∀ id,h.get id≠none→v.rowId≠some id→h'.get id=h.get id)∧(∀ id,va.rowId=some id→v.rowId=some id∨h.get id=none)):=by
 have hnt:=hrow.notTup
 refine bb (fun _=>false) rfl L.f127 ?_
 repeat' first|apply ad|(apply gw;first|(apply gq0;first|refine aw rfl ?_|refine bm rfl ?_|refine ai rv_ ?_)|(refine dD rfl rfl rfl ?_ ?_<;>(intro hc;try omega))|refine aL rfl nt_ ?_)|(apply gx;first|apply af|refine ae rfl ?_|apply ay|refine ah rfl ?_)|apply ac
 refine bS (te L hrow hn u hu) ?_
 rintro _ h' ⟨va,rfl,h1,h2,h3⟩
 have hnt2:=h1.notTup
 repeat' first|apply ad|(apply gw;first|(apply gq0;first|refine ai (v:=AV.tup _) rfl ?_|refine ai rv_ ?_)|refine bY rfl rfl ?_)|(apply gx;first|apply af|refine ae rfl ?_|apply aM)|apply ac
 exact aH rfl ⟨h1,h2,h3⟩
theorem vX {Φ:Lib}(L:cZ Φ){h:aa}{v:AV}{n:Nat}{cs:List AV}(hrow:aA h v 1 n cs)(hn:n≤1073741824)(x:Int)(hx1 : -9223372036854775808≤x)(hx2:x≤9223372036854775807) :
  aU Φ 124 [v,.int .i64 x,.int .i64 36] h (fun va h'=>aA h' va 1 (n+(cX x).length) (cs++bd (cX x))∧(∀ id,h.get id≠none→v.rowId≠some id→h'.get id=h.get id)∧(∀ id,va.rowId=some id→v.rowId=some id∨h.get id=none)):=by
 have hnt:=hrow.notTup
 refine bb (fun _=>false) rfl L.f124 ?_
 by_cases hx:x<0
 ·apply af
  repeat' first|apply ad|(apply gq0;first|refine aw rfl ?_|refine bm rfl ?_)|(apply gx;first|apply af|refine ae rfl ?_)|apply ac
  refine uP rfl hx hx1 ?_
  repeat' first|apply ad|(apply gw;first|(apply gq0;first|refine aw rfl ?_|refine ai rv_ ?_)|(refine aB rfl rfl rfl ?_ ?_<;>(intro hc;try omega))|(refine br (m:=1) rv_ ir_ rfl rfl HT ?_;intro va hpa hra hka hria)|refine bF (cs:=[AV.int _ _]) rfl rfl ?_)|(apply gx;first|apply af|refine ae rfl ?_|refine al rfl ?_)|apply ac
  refine E1 rfl HT HT ?_
  repeat' first|apply ad|(apply gw;first|(apply gq0;first|refine aw rfl ?_|refine ai rv_ ?_)|refine aL rfl nt_ ?_)|(apply gx;first|apply af|refine ae rfl ?_)|apply ac
  have e1:18446744073709551616-(x+18446744073709551616)=(x.natAbs:Int):=by omega
  rw[e1]
  refine bS (nS L hra HT x.natAbs HT) ?_
  rintro va2 h2 ⟨k1,k2,k3⟩
  have hnt2:=k1.notTup
  repeat' first|apply ad|refine ai rv_ ?_|apply aM|apply ac
  have e2:cX x=45::gK x.natAbs:=by rw[cX,if_pos hx]
  refine aH rfl ⟨?_,fun k hk hv=>?_,fun k hk=>?_⟩
  ·rw[e2]
   rw[show n+(45::gK x.natAbs).length=n+1+(gK x.natAbs).length by simp;omega]
   have e3:cs++bd (45::gK x.natAbs)=cs++[AV.int .u8 45]++bd (gK x.natAbs):=by simp[bd]
   rw[e3]
   exact k1
  ·rw[k2 k (by rw[hka k hk hv];exact hk) fun e=>?_,hka k hk hv]
   rcases hria k e with h|h
   ·exact hv h
   ·exact hk h
  ·rcases k3 k hk with h|h
   ·exact hria k h
   ·by_cases hv:v.rowId=some k
    ·exact .inl hv
    ·right
     apply Classical.byContradiction
     intro hne
     rw[hka k hne hv]at h
     exact hne h
 ·have e2:cX x=gK x.natAbs:=by rw[cX,if_neg hx]
  repeat' first|apply ad|(apply gw;first|(apply gq0;first|refine aw rfl ?_|refine bm rfl ?_|refine ai rv_ ?_)|(refine aB rfl rfl rfl ?_ ?_<;>(intro hc;try omega))|refine aL rfl nt_ ?_|refine rh rfl HT HT ?_)|(apply gx;first|apply af|refine ae rfl ?_|apply ay|refine ah rfl ?_)|apply ac
  have e1:x=(x.natAbs:Int):=by omega
  rw[e1]
  refine bS (nS L hrow HT x.natAbs HT) ?_
  rintro va2 h2 ⟨k1,k2,k3⟩
  have hnt2:=k1.notTup
  repeat' first|apply ad|refine ai rv_ ?_|apply aM|apply ac
  rw[← e1,e2]
  exact aH rfl ⟨k1,k2,k3⟩
theorem jo {Φ:Lib}(L:cZ Φ){h:aa}{v:AV}{n:Nat}{cs:List AV}(hrow:aA h v 1 n cs)(hn:n≤1073741824)(x:Int)(hx1 : -9223372036854775808≤x)(hx2:x≤9223372036854775807) :
  aU Φ 118 [v,.int .i64 x,.int .i64 36] h (fun va h'=>aA h' va 1 (n+(cX x).length) (cs++bd (cX x))∧(∀ id,h.get id≠none→v.rowId≠some id→h'.get id=h.get id)∧(∀ id,va.rowId=some id→v.rowId=some id∨h.get id=none)):=by
 have hnt:=hrow.notTup
 refine bb (fun _=>false) rfl L.f118 ?_
 repeat' first|apply ad|(apply gw;first|(apply gq0;first|refine aw rfl ?_|refine bm rfl ?_|refine ai rv_ ?_)|refine aL rfl nt_ ?_)|(apply gx;first|apply af|refine ae rfl ?_)|apply ac
 refine bS (vX L hrow hn x hx1 hx2) ?_
 rintro va h' ⟨h1,h2,h3⟩
 have hnt2:=h1.notTup
 repeat' first|apply ad|refine ai rv_ ?_|apply aM|apply ac
 exact aH rfl ⟨h1,h2,h3⟩
end
section
open Go
set_option maxHeartbeats 4000000
attribute [local irreducible] aj bc bj dn bz cn dz bL wop cq aU
structure Dfa where
 parts:Rw (Rw am)
 next:Rw (Rw Int)
 tags:Rw Int
@[reducible] def Rw.sv (r:Rw am):AV:=r.av am.av
@[reducible] def Dfa.av (d:Dfa):List AV:=[d.parts.mv Rw.sv,d.next.mv Rw.iv,d.tags.iv]
@[simp] theorem HC (l:List (Rw am)):AV.frozenL (l.map Rw.sv)=true:=dQ (fun r=>by simp[AV.frozen]) l
@[simp] theorem HH (d:Dfa):AV.frozenL d.av=true:=by simp[Dfa.av,AV.frozenL,AV.frozen]
def bt (K:List Int)(to:Int):Int:=if to = -1 then -1 else K.getD to.toNat 0
def WAt (h:aa)(id:Nat)(d:Dfa)(K:Rw Int):Prop:=h.get id=some (.cells 0 [d.parts.mv Rw.sv,d.next.mv Rw.iv,d.tags.iv,K.iv])
theorem WAt.keep {h h':aa}{id:Nat}{d:Dfa}{K:Rw Int}(hw:WAt h id d K)(hk:h'.get id=h.get id):WAt h' id d K:=hk.trans hw
theorem qH {Φ:Lib}(L:cZ Φ){h:aa}{id:Nat}{d:Dfa}{K:Rw Int}(hw:WAt h id d K)(to:Int)(ht:to = -1∨0≤to∧to.toNat<K.l.length) :
  aU Φ 107 [.ptr id 0 0,.int .i64 to] h (fun v h'=>v = .int .i64 (bt K.l to)∧h.Ext h'):=by
 have hw':h.get id=some (.cells 0 [d.parts.mv Rw.sv,d.next.mv Rw.iv,d.tags.iv,K.iv]):=hw
 refine bb (fun _=>false) rfl L.f107 ?_
 by_cases h1:to = -1
 ·subst h1
  repeat' first|apply ad|(apply gw;first|refine aw rfl ?_|(refine dD rfl rfl rfl ?_ ?_<;>(intro hc;try omega)))|(apply gx;first|apply af|refine ae rfl ?_|apply aM|refine al rfl ?_)|apply ac|apply cz|refine aH (v:=AV.int _ _) rfl ?_
  exact⟨rfl,aa.Ext.refl _⟩
 ·obtain⟨x,hx⟩:∃ x,K.l[to.toNat]?=some x:=⟨_,List.getElem?_eq_getElem HT⟩
  repeat' first|apply ad|(apply gw;first|(apply gq0;first|refine aw rfl ?_|refine ai (v:=AV.ptr _ _ _) rfl ?_)|(apply gq2;first|refine aI rfl b_ pv_ ?_|refine ak rfl hg_ HU b_ pv_ ?_)|(refine dD rfl rfl rfl ?_ ?_<;>(intro hc;try omega))|refine aq rfl (Nat.zero_add _) ?_|refine ar rfl rfl hx HT rfl ?_|refine bi rfl ?_)|(apply gx;first|apply af|refine ae rfl ?_|apply ay|apply aM|refine ah rfl ?_)|apply ac|refine aH (v:=AV.int _ _) rfl ?_
  exact⟨by simp[bt,h1,List.getD_eq_getElem?_getD,hx],aa.Ext.refl _⟩
structure Dfa.Fit (d:Dfa)(K:Rw Int):Prop where
 kl:K.l.length=d.next.l.length
 tl:d.tags.l.length=d.next.l.length
 n1:1≤d.next.l.length
 n2:d.next.l.length≤2000
 p2:d.parts.l.length≤2000
 rows:∀ r∈d.next.l,r.l.length=d.parts.l.length
 to:∀ r∈d.next.l,∀ x∈r.l,x = -1∨0≤x∧x.toNat<d.next.l.length
 kr:∀ x∈K.l,-2147483648≤x∧x≤2147483647
theorem mK {d:Dfa}{K:Rw Int}(hf:d.Fit K)(to:Int) : -2147483648≤bt K.l to∧bt K.l to≤2147483647:=by
 unfold bt
 split
 ·omega
 ·rw[List.getD_eq_getElem?_getD]
  cases hx:K.l[to.toNat]? with
  | none=>simp
  | some x=>exact hf.kr x (List.mem_of_getElem? hx)
theorem Gp {u:Nat}(h:u<2821109907456):(gK u).length≤8:=qe 7 u (Nat.lt_of_lt_of_le h (by decide))
theorem pH {x:Int}(h1 : -2147483648≤x)(h2:x≤2147483647):(cX x).length≤9:=by
 have:=Gp (u:=x.natAbs) HT
 unfold cX
 split
 ·simp;omega
 ·omega
theorem nG {l:List Int}(h:∀ x∈l,-2147483648≤x∧x≤2147483647):(bZ l).length≤10*l.length:=by
 induction l with
 | nil=>simp[bZ]
 | cons x l ih =>
  have h1:=ih fun y hy=>h y (by simp[hy])
  have h2:=h x HU
  have h3:=pH h2.1 h2.2
  simp only[bZ,List.flatMap_cons,List.length_append,List.length_cons]at h1 ⊢
  omega
theorem nH (l m:List Int):bZ (l++m)=bZ l++bZ m:=by simp[bZ]
theorem eJ (l m:List UInt8):bd (l++m)=bd l++bd m:=by simp[bd]
theorem EU {Φ:Lib}(L:cZ Φ){h:aa}{id:Nat}{d:Dfa}{K:Rw Int}(hw:WAt h id d K)(hf:d.Fit K){s:Nat}{k:Int}{row:Rw Int}(hk:K.l[s]?=some k)(hr:d.next.l[s]?=some row) :
  aU Φ 123 [.ptr id 0 0,.int .i64 s] h (fun v h'=>v = .str (cX k++bZ (row.l.map (bt K.l)))∧h.Ext h'):=by
 have hw':h.get id=some (.cells 0 [d.parts.mv Rw.sv,d.next.mv Rw.iv,d.tags.iv,K.iv]):=hw
 have hs:=lt_of_getElem? hk
 have hs2:=lt_of_getElem? hr
 have hkr:=hf.kr k (List.mem_of_getElem? hk)
 have hk9:=pH hkr.1 hkr.2
 have hrl:=hf.rows row (List.mem_of_getElem? hr)
 have hp2:=hf.p2
 refine bb (fun _=>false) rfl L.f123 ?_
 repeat' first|apply ad|(apply gw;first|(apply gq0;first|refine aw rfl ?_|refine ai (v:=AV.ptr _ _ _) rfl ?_|refine ai (v:=AV.str _) rfl ?_)|(apply gq2;first|refine aI rfl b_ pv_ ?_|refine ak rfl hg_ HU b_ pv_ ?_)|refine aq rfl (Nat.zero_add _) ?_|refine ar rfl rfl hk HT rfl ?_|refine bi rfl ?_|refine aL rfl nt_ ?_)|(apply gx;first|apply af|refine ae rfl ?_)|apply ac
 refine bS (jo L (aA.nil _ _) HT k HT HT) ?_
 rintro v0 h0 ⟨hv0,hk0,hi0⟩
 have hold0:∀ k,h.get k≠none→h0.get k=h.get k:=fun k hk=>hk0 k hk (by simp[AV.rowId])
 have hid:h.get id≠none:=by rw[hw'];simp
 have hw0:=(hold0 id hid).trans hw'
 have hnt:=hv0.notTup
 repeat' first|apply ad|(apply gw;first|(apply gq0;first|refine aw rfl ?_|refine ai (v:=AV.ptr _ _ _) rfl ?_|refine ai rv_ ?_)|(apply gq2;first|refine aI rfl b_ pv_ ?_|refine ak rfl hg_ HU b_ pv_ ?_)|refine aq rfl (Nat.zero_add _) ?_|refine ar rfl rfl hr HT rfl ?_|refine aD rfl ?_|refine bi rfl ?_)|(apply gx;first|apply af|refine ae rfl ?_|apply au)|apply ac
 rw[Nat.zero_add,List.nil_append]at hv0
 refine cl row.l.length (fun i env h'=>∃ v,aA h' v 1 (cX k++bZ ((row.l.take i).map (bt K.l))).length (bd (cX k++bZ ((row.l.take i).map (bt K.l))))∧(∀ k,h.get k≠none→h'.get k=h.get k)∧(∀ k,v.rowId=some k→h.get k=none)∧env.has [(0,.ptr id 0 0),(5,v),(23,row.iv),(24,.int .i64 row.l.length),(25,.int .i64 i)]) ⟨v0,by simpa[bZ] using hv0,hold0,fun k hk=>(hi0 k hk).resolve_left (by simp[AV.rowId]),hh_⟩ ?_
 rintro i env h' hi ⟨v,hv,hold,hown,he⟩
 obtain⟨env,rfl⟩:=he.ex
 clear he
 have hw1:=(hold id hid).trans hw'
 have hnt:=hv.notTup
 have hlen:(cX k++bZ ((row.l.take i).map (bt K.l))).length≤20009:=by
  rw[List.length_append]
  have h1:(bZ ((row.l.take i).map (bt K.l))).length≤10*((row.l.take i).map (bt K.l)).length:=nG fun x hx=>by
   obtain⟨y,_,rfl⟩:=List.mem_map.1 hx
   exact mK hf y
  rw[List.length_map,List.length_take]at h1
  omega
 by_cases hi2:i<row.l.length
 ·obtain⟨x,hx⟩:=aK hi2
  have hxo:=hf.to row (List.mem_of_getElem? hr) x (List.mem_of_getElem? hx)
  repeat' first|apply ad|(apply gw;first|(apply gq0;first|refine aw rfl ?_|refine ai (v:=AV.ptr _ _ _) rfl ?_|refine ai rv_ ?_)|refine aI rfl b_ pv_ ?_|(refine aB rfl rfl rfl ?_ ?_<;>(intro hc;try omega))|refine ar rfl rfl hx HT rfl ?_|refine aL rfl nt_ ?_|(refine br (m:=1) rv_ ir_ rfl rfl HT ?_;intro va hpa hra hka hria)|refine bF (cs:=[AV.int _ _]) rfl rfl ?_)|(apply gx;first|apply af|refine ae rfl ?_|apply ay|apply au|refine al rfl ?_)|apply ac
  have hne:∀ k,h.get k≠none→v.rowId≠some k:=fun k hk hv=>hk (hown k hv)
  have hold2:∀ k,h.get k≠none→hpa.get k=h.get k:=fun k hk=>(hka k (by rw[hold k hk];exact hk) (hne k hk)).trans (hold k hk)
  have hw2:=(hold2 id hid).trans hw'
  refine jz HT (qH L (K:=K) hw2 x (by rw[hf.kl];exact hxo)) ?_
  repeat' first|refine aL rfl nt_ ?_
  have hkx:=mK hf x
  refine bS (jo L hra HT (bt K.l x) HT HT) ?_
  rintro v2 h2 ⟨hv2,hk2,hi2'⟩
  have hnt2:=hv2.notTup
  have hka2:∀ k,va.rowId=some k→h.get k=none:=fun k hk=>by
   rcases hria k hk with h|h
   ·exact hown k h
   ·apply Classical.byContradiction
    intro hne
    rw[hold k hne]at h
    exact hne h
  repeat' first|apply ad|(apply gw;first|(apply gq0;first|refine aw rfl ?_|refine ai rv_ ?_)|refine a8 rfl rfl rfl HT HT ?_)|refine ae rfl ?_|apply ac|apply aJ
  refine aW hi2 ⟨v2,?_,fun k hk=>(hk2 k (by rw[hold2 k hk];exact hk) fun e=>hk (hka2 k e)).trans (hold2 k hk),fun k hk=>?_,hh_⟩
  ·have e1:cX k++bZ ((row.l.take (i+1)).map (bt K.l))=(cX k++bZ ((row.l.take i).map (bt K.l)))++(32::cX (bt K.l x)):=by
    rw[List.take_add_one,hx,List.map_append,nH,List.append_assoc]
    simp[bZ]
   rw[e1,eJ,List.length_append]
   have e2:bd (32::cX (bt K.l x))=[AV.int .u8 32]++bd (cX (bt K.l x)):=rfl
   rw[e2,← List.append_assoc,List.length_cons,Nat.add_comm _ 1,← Nat.add_assoc]
   exact hv2
  ·rcases hi2' k hk with h|h
   ·exact hka2 k h
   ·apply Classical.byContradiction
    intro hne
    rw[hold2 k hne]at h
    exact hne h
 ·have hii:i=row.l.length:=by omega
  rw[List.take_of_length_le HT]at hv
  have hns:v.isStr=false:=by rcases hv with⟨rfl,_⟩|⟨_,_,rfl,_⟩<;>rfl
  repeat' first|apply ad|(apply gw;first|refine ai rv_ ?_|(refine aB rfl rfl rfl ?_ ?_<;>(intro hc;try omega)))|(apply gx;first|apply af|refine ae rfl ?_|apply aP|refine ah rfl ?_)|apply ac|apply aQ|apply aR|apply ba
  refine kh rfl hns (fk hv) ?_
  repeat' first|apply ad|refine ai (v:=AV.str _) rfl ?_|apply aM|apply ac
  refine aH rfl ⟨rfl,fun k o e=>?_⟩
  exact(hold k (by rw[e];simp)).trans e
end
end Go.Proofs.YtlnobeojgifojaaGreatDoor
