/- Single steps: unsigned numbers, strings, arrays, maps. Numbers as texts, by base 36. A machine at one place, being made least: kinds, texts. -/
import Derived.Test.YtlnobeojgifojaaGreatDoorB2
import Derived.Test.YtlnobeojgifojaaGreatDoorCC
import Derived.Test.YtlnobeojgifojaaGreatDoorD7
set_option linter.unusedVariables false
set_option linter.unusedSimpArgs false
namespace Go.Proofs.YtlnobeojgifojaaGreatDoor
section
open Go
def bl (s:List UInt8):List AV:=s.map fun b => .int .u8 b.toNat
theorem mZ (s:List UInt8):(bl s).length=s.length:=by simp[bl]
theorem vy (s:List UInt8):mo (bl s)=some s:=by
 induction s with
 | nil=>rfl
 | cons b s ih =>
  have:bl (b::s) = .int .u8 b.toNat::bl s:=rfl
  rw[this,mo,ih]
  simp
section
variable {F:bY} {r:List bG} {Q:Env→ac→Prop} {env:Env} {h:ac} {d:Nat} {x y z c:bt}
theorem HF {a b s}(hx:ev env x = .int .u64 a)(hy:ev env y = .int .u64 b)(hs:a-b=s)(h1:0≤s)(h2:s≤18446744073709551615)(k:aw F r Q (env.put d (.int .u64 s)) h):aw F (⟨some d,.bin .sub x y,none⟩::r) Q env h:=by
 subst hs
 have:IntKind.u64.wrap (a-b)=a-b:=by simp[IntKind.wrap,IntKind.bits,IntKind.signed];omega
 simp[hx,hy,this,k]
theorem HJ {a b s}(hx:ev env x = .int .u64 a)(hy:ev env y = .int .u64 b)(hs:a*b=s)(h1:0≤s)(h2:s≤18446744073709551615)(k:aw F r Q (env.put d (.int .u64 s)) h):aw F (⟨some d,.bin .mul x y,none⟩::r) Q env h:=by
 subst hs
 have:IntKind.u64.wrap (a*b)=a*b:=by simp[IntKind.wrap,IntKind.bits,IntKind.signed];omega
 simp[hx,hy,this,k]
theorem HG {a b}(hx:ev env x = .int .u64 a)(hy:ev env y = .int .u64 b)(h0:0≤a)(h1:0<b)(h2:a≤18446744073709551615)(k1:aw F r Q (env.put d (.int .u64 (a / b))) h):aw F (⟨some d,.bin .quo x y,none⟩::r) Q env h:=by
 have hb:b≠0:=by omega
 have e:a.tdiv b=a / b:=Int.tdiv_eq_ediv_of_nonneg h0
 have l1:0≤a / b:=Int.ediv_nonneg h0 (by omega)
 have l2:a / b≤a:=Int.ediv_le_self b h0
 have:IntKind.u64.wrap (a.tdiv b)=a / b:=by rw[e];simp[IntKind.wrap,IntKind.bits,IntKind.signed];omega
 simp[hx,hy,hb,this,k1]
theorem tn {k a}(hx:ev env x = .int k a)(h0:0≤a)(h1:a≤18446744073709551615)(k1:aw F r Q (env.put d (.int .u64 a)) h):aw F (⟨some d,.conv .u64 x,none⟩::r) Q env h:=by
 have:IntKind.u64.wrap a=a:=by simp[IntKind.wrap,IntKind.bits,IntKind.signed];omega
 simp[hx,this,k1]
theorem xi {k a}(hx:ev env x = .int k a)(h0:a<0)(h1 : -9223372036854775808≤a)(k1:aw F r Q (env.put d (.int .u64 (a+18446744073709551616))) h):aw F (⟨some d,.conv .u64 x,none⟩::r) Q env h:=by
 have:IntKind.u64.wrap a=a+18446744073709551616:=by simp[IntKind.wrap,IntKind.bits,IntKind.signed];omega
 simp[hx,this,k1]
theorem HI {a}(hx:ev env x = .int .u64 a)(h0:0<a)(h1:a≤18446744073709551615)(k1:aw F r Q (env.put d (.int .u64 (18446744073709551616-a))) h):aw F (⟨some d,.un .neg x,none⟩::r) Q env h:=by
 have:IntKind.u64.wrap (-a)=18446744073709551616-a:=by simp[IntKind.wrap,IntKind.bits,IntKind.signed];omega
 simp[hx,this,k1]
theorem rY {s k j b}(hx:ev env x = .str s)(hy:ev env y = .int k j)(h0:0≤j)(h1:j<s.length)(hb:s.getD j.toNat 0=b)(k1:aw F r Q (env.put d (.int .u8 b.toNat)) h):aw F (⟨some d,.indexStr x y,none⟩::r) Q env h:=by
 subst hb
 have:j<s.length:=h1
 simp only[bM,wZ,aU,hx,hy,bF]
 rw[if_pos ⟨h0,h1⟩]
 exact k1
theorem nB {n e id g o k j s}(hx:ev env x = .ptr id g o)(hy:ev env y = .int k j)(h0:0≤j)(h1:j<(n:Nat))(hs:o+j.toNat*e=s)(k1:aw F r Q (env.put d (.ptr id g s)) h):aw F (⟨some d,.indexAddrA n e x y,none⟩::r) Q env h:=by
 subst hs
 simp only[bM,s9,aU,hx,hy,bF]
 rw[if_pos ⟨h0,h1⟩]
 exact k1
theorem xf {n e id g k j cs}(hx:ev env x = .ptr id g 0)(hy:ev env y = .int k j)(hg:h.get id=some (.cells g cs))(hl:n*e≤cs.length)(h0:0≤j)(h1:j≤(n:Nat))(k1:aw F r Q (env.put d (.own id g e j.toNat (n-j).toNat (some (n-j.toNat)))) h):aw F (⟨some d,.sliceA n e x (some y) none,none⟩::r) Q env h:=by
 simp only[bM,Ag,bg,hx,hy,hg,bF,eP,Option.bind_some]
 rw[if_pos ⟨trivial,hl,h0,h1,Int.le_refl _⟩]
 exact k1
theorem lF {v m s}(hx:ev env x=v)(hi:v.isStr=false)(hs:bv h 1 v=some (m,bl s))(k1:aw F r Q (env.put d (.str s)) h):aw F (⟨some d,.strOf x,none⟩::r) Q env h:=by
 simp only[bM,Cr,bg,hx,hs,bF,hi,Option.bind_some,vy,Option.map_some]
 exact k1
theorem lG {kk}(k1:∀ id,h.get id=none→aw F r Q (env.put d (.map id)) (h.set id (.map kk []))):aw F (⟨some d,.mkmap kk,none⟩::r) Q env h:=by
 simp only[bM,Cs,bF]
 exact k1
theorem lH {id kk es}(hx:ev env x = .map id)(hg:h.get id=some (.map kk es))(k1:aw F r Q (env.put d (.int .i64 es.length)) h):aw F (⟨some d,.len 2 x,none⟩::r) Q env h:=by
 simp only[bM,By,bg,hx,hg,bF]
 exact k1
theorem vY {kk zero id es key}(hx:ev env x = .map id)(hy:ev env y=key)(hk:j4 kk key=true)(hg:h.get id=some (.map kk es))(k1:aw F r Q (env.put d ((iG es key).getD zero)) h):aw F (⟨some d,.lookup kk zero false x y,none⟩::r) Q env h:=by
 simp only[bM,s7,bg,hx,hy,hg,bF,hk,if_true]
 exact k1
theorem jf {kk zero id es key}(hx:ev env x = .map id)(hy:ev env y=key)(hk:j4 kk key=true)(hg:h.get id=some (.map kk es))(k1:aw F r Q (env.put d (.tup [(iG es key).getD zero,.bool (iG es key).isSome])) h):aw F (⟨some d,.lookup kk zero true x y,none⟩::r) Q env h:=by
 simp only[bM,s7,bg,hx,hy,hg,bF,hk,if_true]
 exact k1
theorem gJ {kk id es key v}(hx:ev env x = .map id)(hy:ev env y=key)(hz:ev env z=v)(hk:j4 kk key=true)(hv:v.isVal=true)(hg:h.get id=some (.map kk es))(k1:aw F r Q env (h.set id (.map kk (lX es key v)))):aw F (⟨none,.update kk x y z,none⟩::r) Q env h:=by
 simp only[bM,Af,de,hx,hy,hz,hg,hk,hv,and_self,if_true,r7]
 exact k1
end
end
section
open Go
set_option maxHeartbeats 4000000
attribute [local irreducible] aw bd bm cV bz cu dF bH wop cz a8
def Jt:List UInt8:=[48,49,50,51,52,53,54,55,56,57,97,98,99,100,101,102,103,104,105,106,107,108,109,110,111,112,113,114,115,116,117,118,119,120,121,122]
def jJ (n:Nat):UInt8:=Jt.getD n 0
def iU (u:Nat):List UInt8:=if h:u<36 then [jJ u] else iU (u / 36)++[jJ (u%36)]
termination_by u
decreasing_by omega
def dM (x:Int):List UInt8:=if x<0 then 45::iU x.natAbs else iU x.natAbs
theorem jD {u:Nat}(h:u<36):iU u=[jJ u]:=by rw[iU,dif_pos h]
theorem j0 {u:Nat}(h:¬ u<36):iU u=iU (u / 36)++[jJ (u%36)]:=by rw[iU,dif_neg h]
theorem t8 (u:Nat):1≤(iU u).length:=by
 by_cases h:u<36
 ·rw[jD h];simp
 ·rw[j0 h];simp
theorem sb (k:Nat):∀ u:Nat,u<36 ^ (k+1)→(iU u).length≤k+1:=by
 induction k with
 | zero=>intro u h;rw[jD (by simpa using h)];simp
 | succ k ih =>
  intro u h
  by_cases h1:u<36
  ·rw[jD h1];simp
  ·rw[j0 h1]
   have:=ih (u / 36) (by rw[Nat.div_lt_iff_lt_mul (by omega)];rw[Nat.pow_succ]at h;exact h)
   simp
   omega
theorem H2 {u:Nat}(h:u<18446744073709551616):(iU u).length≤13:=sb 12 u (Nat.lt_of_lt_of_le h (by decide))
theorem wJ:∀ a,a<36→∀ b,b<36→jJ a=jJ b→a=b:=by decide
theorem zL:∀ a,a<36→jJ a≠32∧jJ a≠45:=by decide
theorem sP {u:Nat}:∀ c∈iU u,c≠32∧c≠45:=by
 induction u using Nat.strongRecOn with
 | ind u ih =>
  by_cases h:u<36
  ·rw[jD h]
   intro c hc
   obtain rfl:=List.mem_singleton.1 hc
   exact zL u h
  ·rw[j0 h]
   intro c hc
   rcases List.mem_append.1 hc with hc|hc
   ·exact ih (u / 36) (by omega) c hc
   ·obtain rfl:=List.mem_singleton.1 hc
    exact zL _ (Nat.mod_lt _ (by omega))
theorem zm {u v:Nat}(e:iU u=iU v):u=v:=by
 induction u using Nat.strongRecOn generalizing v with
 | ind u ih =>
  by_cases h:u<36<;>by_cases h2:v<36
  ·rw[jD h,jD h2]at e
   exact wJ u h v h2 (by simpa using e)
  ·rw[jD h,j0 h2]at e
   have h3:=congrArg List.length e
   have h4:=t8 (v / 36)
   simp only[List.length_append,List.length_cons,List.length_nil]at h3
   omega
  ·rw[j0 h,jD h2]at e
   have h3:=congrArg List.length e
   have h4:=t8 (u / 36)
   simp only[List.length_append,List.length_cons,List.length_nil]at h3
   omega
  ·rw[j0 h,j0 h2]at e
   obtain⟨e1,e2⟩:=List.append_inj' e rfl
   have:=ih (u / 36) (by omega) e1
   have:=wJ _ (Nat.mod_lt _ (by omega)) _ (Nat.mod_lt _ (by omega)) (by simpa using e2)
   omega
theorem sR {x:Int}:∀ c∈dM x,c≠32:=by
 intro c hc
 unfold dM at hc
 split at hc
 ·rcases List.mem_cons.1 hc with rfl|hc
  ·decide
  ·exact(sP c hc).1
 ·exact(sP c hc).1
theorem og {x y:Int}(e:dM x=dM y):x=y:=by
 unfold dM at e
 split at e<;>split at e
 ·have:=zm (List.cons.inj e).2
  omega
 ·have h1:(45:UInt8)∈iU y.natAbs:=e ▸ List.mem_cons_self
  exact absurd rfl (sP _ h1).2
 ·have h1:(45:UInt8)∈iU x.natAbs:=e.symm ▸ List.mem_cons_self
  exact absurd rfl (sP _ h1).2
 ·have:=zm e
  omega
def cp (l:List Int):List UInt8:=l.flatMap fun x=>32::dM x
theorem v8 {a b r s:List UInt8}(ha:∀ c∈a,c≠32)(hb:∀ c∈b,c≠32)(hr:∀ c,r.head?=some c→c=32)(hs:∀ c,s.head?=some c→c=32)(e:a++r=b++s):a=b∧r=s:=by
 induction a generalizing b with
 | nil =>
  cases b with
  | nil=>exact⟨rfl,e⟩
  | cons c b =>
   simp at e
   have h1:=hr c (by rw[e];rfl)
   exact absurd h1 (hb c (by simp))
 | cons x a ih =>
  cases b with
  | nil =>
   simp at e
   have h1:=hs x (by rw[← e];rfl)
   exact absurd h1 (ha x (by simp))
  | cons c b =>
   simp at e
   obtain⟨h1,h2⟩:=ih (fun c hc=>ha c (by simp[hc])) (fun c hc=>hb c (by simp[hc])) e.2
   exact⟨by rw[e.1,h1],h2⟩
theorem l8 (l:List Int):∀ c,(cp l).head?=some c→c=32:=by
 cases l with
 | nil=>intro c hc;cases hc
 | cons x l=>intro c hc;simp[cp]at hc;exact hc.symm
theorem pz:∀ {l m:List Int},cp l=cp m→l=m
 | [],[],_=>rfl
 | [],_::_,e=>by simp[cp]at e
 | _::_,[],e=>by simp[cp]at e
 | x::l,y::m,e=>by
  have e1:dM x++cp l=dM y++cp m:=by
   simp only[cp,List.flatMap_cons,List.cons_append]at e
   exact(List.cons.inj e).2
  obtain⟨h1,h2⟩:=v8 sR sR (l8 l) (l8 m) e1
  rw[og h1,pz h2]
theorem CE {x y:Int}{l m:List Int}(e:dM x++cp l=dM y++cp m):x=y∧l=m:=by
 obtain⟨h1,h2⟩:=v8 sR sR (l8 l) (l8 m) e
 exact⟨og h1,pz h2⟩
theorem qW {as:List AV}{i:Nat}{suf:List UInt8}{d:UInt8}(has:as.length=65)(hi:1≤i∧i≤65)(hdr:as.drop i=bl suf):(as.set (i-1) (.int .u8 d.toNat)).drop (i-1)=bl (d::suf):=by
 rw[List.drop_set,if_neg (by omega),Nat.sub_self]
 rw[List.drop_eq_getElem_cons (by omega:i-1<as.length),List.set_cons_zero,show i-1+1=i by omega,hdr]
 rfl
theorem uY {h:ac}{id g e off len m:Nat}{lim:Option Nat}{cs new:List AV}(hg:h.get id=some (.cells g cs))(hm:len=m)(hl:(off+len)*e≤cs.length)(hn:(cs.drop (off*e)).take (len*e)=new):bv h e (.own id g e off len lim)=some (m,new):=by
 subst hm hn
 simp only[bv,hg]
 rw[if_pos ⟨trivial,trivial,hl⟩]
theorem yS {env:Env}{h:ac}{a b:Nat}{v w:AV}(h1:env a=v)(h2:env b=w)(n1:v.isTup=false)(n2:w.isTup=false):eZ env h [.tmp a,.tmp b]=some (.tup [v,w]):=by
 subst h1 h2
 have:eZ env h [.tmp a,.tmp b]=if [env a,env b].all (fun x => !x.isTup)=true then some (.tup [env a,env b]) else none:=rfl
 rw[this,if_pos]
 rw[List.all_cons,List.all_cons,n1,n2]
 rfl
theorem HT {Φ:Lib}(L:cO Φ):eV Φ 146 [.int .i64 36] (.bool false):=by
 refine aY (fun _=>false) rfl L.f146 ?_
 repeat' first|apply ad|(apply gw;first|(apply gq0;first|refine am rfl ?_|refine bj rfl ?_)|refine eJ rfl rfl rfl (by omega) (by omega) ?_)|(apply gx;first|apply af|refine ae rfl ?_)|apply aa
 refine eH rfl (v := .int .i64 32) rfl ?_
 repeat' first|apply ad|(apply gw;first|refine bj rfl ?_|(refine cn rfl rfl rfl ?_ ?_<;>(intro hc;try (exfalso;omega))))|apply aM|apply aa|refine aH (v:=AV.bool _) rfl ?_
 rfl
theorem vm {Φ:Lib}(L:cO Φ){h:ac}{v:AV}{n:Nat}{cs:List AV}(hrow:aC h v 1 n cs)(hn:n≤2147483648)(u:Nat)(hu:u<18446744073709551616) :
  a8 Φ 140 [v,.int .u64 u,.int .i64 36,.bool false,.bool true] h (fun v' h'=>∃ va,v' = .tup [va,.str []]∧aC h' va 1 (n+(iU u).length) (cs++bl (iU u))∧(∀ id,h.get id≠none→v.rowId≠some id→h'.get id=h.get id)∧(∀ id,va.rowId=some id→v.rowId=some id∨h.get id=none)):=by
 have hp:=HT L
 have hnt:=hrow.notTup
 refine aY (fun _=>false) rfl L.f140 ?_
 repeat' first|apply ad|(apply gw;first|(apply gq0;first|refine am rfl ?_|refine bj rfl ?_|refine aG rfl ?_|refine ar (v:=AV.str _) rfl ?_)|refine bP rfl ?_|(apply gq3;first|(refine aA rfl rfl rfl ?_ ?_<;>(intro hc;try (exfalso;omega)))|(refine cY rfl rfl rfl ?_ ?_<;>(intro hc;try (exfalso;omega)))|(refine cn rfl rfl rfl ?_ ?_<;>(intro hc;try (exfalso;omega))))|refine bc rfl rfl ?_|refine aI rfl nt_ ?_|(refine cd ?_;intro id hid;try simp only[ac.set_none]at hid)|refine tn rfl (by omega) (by omega) ?_)|(apply gx;first|apply af|refine ae rfl ?_|apply az|apply al|refine ah rfl ?_)|apply aa|refine aX (by assumption) fz_ fz_ ?_
 have h13:=H2 hu
 have hfr:∀ k,h.get k≠none→k≠id:=fun k hk e=>hk (e ▸ hid)
 refine hZ (fun m env h'=>∃ (w i:Nat) (suf:List UInt8) (as:List AV),m=w∧w≤u∧suf.length+i=65∧iU w++suf=iU u∧as.length=65∧as.drop i=bl suf∧h'.get id=some (.cells 0 as)∧(∀ k,h.get k≠none→h'.get k=h.get k)∧env.has [(0,v),(1,.int .u64 w),(3,.bool false),(4,.bool true),(11,.str []),(12,.ptr id 0 0),(13,.int .i64 i),(17,.int .u64 36)]) u ⟨u,65,[],_,rfl,Nat.le_refl _,rfl,by simp,rfl,rfl,ac.get_set_self _ _ _,fun k hk=>ac.get_set_ne _ _ (hfr k hk),hh_⟩ ?_
 rintro m env h' ⟨w,i,suf,as,rfl,hwu,hsi,hns,has,hdr,hga,hold,he⟩
 obtain⟨env,rfl⟩:=he.ex
 clear he
 have hlen:=congrArg List.length hns
 rw[List.length_append]at hlen
 by_cases hw:36≤m
 ·have h1:=t8 (m / 36)
  have h2:(iU m).length=(iU (m / 36)).length+1:=by rw[j0 (by omega)];simp
  repeat' first|apply ad|(apply gw;first|refine am rfl ?_|(apply gq3;first|refine eJ rfl rfl rfl (by omega) (by omega) ?_|(refine eK rfl rfl rfl ?_ ?_<;>(intro hc;try (exfalso;omega)))|refine HF rfl rfl rfl (by omega) (by omega) ?_|refine HJ rfl rfl rfl (by omega) (by omega) ?_|refine HG rfl rfl (by omega) (by omega) (by omega) ?_)|refine bh (v:=AV.int _ _) rfl rfl hg_ rfl rfl b_ sv_ ?_|refine rY rfl rfl (by omega) (by first|(simp;done)|(simp;omega)|omega) rfl ?_|refine nB rfl rfl (by omega) (by omega) rfl ?_)|(apply gx;first|apply af|refine ae rfl ?_|apply az|apply al|refine ak rfl ?_)|apply aa|apply aD
  rw[show((i:Int)-1)=((i-1:Nat):Int) by omega]
  refine ft (m / 36) (by omega) ⟨m / 36,i-1,jJ (m%36)::suf,_,rfl,by omega,by simp;omega,?_,by rw[List.length_set];exact has,?_,ac.get_set_self _ _ _,fun k hk=>(ac.get_set_ne _ _ (hfr k hk)).trans (hold k hk),hh_⟩
  ·rw[← hns,j0 (show ¬ m<36 by omega)]
   simp
  ·rw[Int.toNat_natCast,Nat.mul_one,show((m:Int)-(m:Int) / 36*36).toNat=m%36 by omega]
   exact qW has ⟨by omega,by omega⟩ hdr
 ·have hi:(iU m).length=1:=by rw[jD (by omega)];rfl
  have e1:iU u=jJ m::suf:=by rw[← hns,jD (by omega)];rfl
  repeat' first|apply ad|(apply gw;first|(apply gq0;first|refine am rfl ?_|refine bj rfl ?_|refine ar rv_ ?_)|(apply gq3;first|refine eJ rfl rfl rfl (by omega) (by omega) ?_|(refine eK rfl rfl rfl ?_ ?_<;>(intro hc;try (exfalso;omega))))|refine bh (v:=AV.int _ _) rfl rfl hg_ rfl rfl b_ sv_ ?_|refine rY rfl rfl (by omega) (by first|(simp;done)|(simp;omega)|omega) rfl ?_|refine nB rfl rfl (by omega) (by omega) rfl ?_)|(apply gx;first|apply af|refine ae rfl ?_|apply az|apply aJ|refine ak rfl ?_|refine ah rfl ?_)|apply aa|apply aK|apply aL|apply aR
  rw[show((i:Int)-1)=((i-1:Nat):Int) by omega]
  have hd:=qW (d:=jJ m) has ⟨by omega,by omega⟩ hdr
  rw[← e1]at hd
  refine xf rfl rfl (ac.get_set_self _ _ _) (by rw[List.length_set,has];exact Nat.le_refl _) (by omega) (by omega) ?_
  have hrow2:∀ ob,aC (h'.set id ob) v 1 n cs:=fun ob=>hrow.keep fun k hk=>(ac.get_set_ne _ _ (hfr k (hrow.there hk))).trans (hold k (hrow.there hk))
  refine iO (n:=n) (m:=(iU u).length) (new:=bl (iU u)) (w := .own id 0 1 _ _ _) rfl (hrow2 _) rfl (uY (ac.get_set_self _ _ _) ?_ ?_ ?_) (by rw[mZ,Nat.mul_one]) (by omega) ?_
  ·rw[e1];simp;omega
  ·rw[List.length_set,has];omega
  ·simp only[Int.toNat_natCast,Nat.mul_one]
   refine(congrArg (List.take _) hd).trans (List.take_of_length_le ?_)
   rw[mZ,e1];simp;omega
  ·intro va hb hra hka hia
   repeat' first|apply ad|refine ar rv_ ?_|apply aM|apply aa|apply cv
   refine aH (v := .tup [va,.str []]) (yS rfl rfl hra.notTup rfl) ⟨va,rfl,hra,fun k hk hv=>(hka k ?_ hv).trans ((ac.get_set_ne _ _ (hfr k hk)).trans (hold k hk)),fun k hk=>?_⟩
   ·rw[ac.get_set_ne _ _ (hfr k hk),hold k hk]
    exact hk
   ·rcases hia k hk with h|h
    ·exact .inl h
    ·right
     apply Classical.byContradiction
     intro hne
     rw[ac.get_set_ne _ _ (hfr k hne),hold k hne]at h
     exact hne h
theorem pv {Φ:Lib}(L:cO Φ){h:ac}{v:AV}{n:Nat}{cs:List AV}(hrow:aC h v 1 n cs)(hn:n≤2147483648)(u:Nat)(hu:u<18446744073709551616) :
  a8 Φ 127 [v,.int .u64 u,.int .i64 36] h (fun va h'=>aC h' va 1 (n+(iU u).length) (cs++bl (iU u))∧(∀ id,h.get id≠none→v.rowId≠some id→h'.get id=h.get id)∧(∀ id,va.rowId=some id→v.rowId=some id∨h.get id=none)):=by
 have hnt:=hrow.notTup
 refine aY (fun _=>false) rfl L.f127 ?_
 repeat' first|apply ad|(apply gw;first|(apply gq0;first|refine am rfl ?_|refine aG rfl ?_|refine ar rv_ ?_)|(refine cn rfl rfl rfl ?_ ?_<;>(intro hc;try (exfalso;omega)))|refine aI rfl nt_ ?_)|(apply gx;first|apply af|refine ae rfl ?_|apply az|refine ah rfl ?_)|apply aa
 refine ce (vm L hrow hn u hu) ?_
 rintro _ h' ⟨va,rfl,h1,h2,h3⟩
 have hnt2:=h1.notTup
 repeat' first|apply ad|(apply gw;first|(apply gq0;first|refine ar (v:=AV.tup _) rfl ?_|refine ar rv_ ?_)|refine ci rfl rfl ?_)|(apply gx;first|apply af|refine ae rfl ?_|apply aM)|apply aa
 exact aH rfl ⟨h1,h2,h3⟩
theorem yf {Φ:Lib}(L:cO Φ){h:ac}{v:AV}{n:Nat}{cs:List AV}(hrow:aC h v 1 n cs)(hn:n≤1073741824)(x:Int)(hx1 : -9223372036854775808≤x)(hx2:x≤9223372036854775807) :
  a8 Φ 124 [v,.int .i64 x,.int .i64 36] h (fun va h'=>aC h' va 1 (n+(dM x).length) (cs++bl (dM x))∧(∀ id,h.get id≠none→v.rowId≠some id→h'.get id=h.get id)∧(∀ id,va.rowId=some id→v.rowId=some id∨h.get id=none)):=by
 have hnt:=hrow.notTup
 refine aY (fun _=>false) rfl L.f124 ?_
 by_cases hx:x<0
 ·apply af
  repeat' first|apply ad|(apply gq0;first|refine am rfl ?_|refine aG rfl ?_)|(apply gx;first|apply af|refine ae rfl ?_)|apply aa
  refine xi rfl hx hx1 ?_
  repeat' first|apply ad|(apply gw;first|(apply gq0;first|refine am rfl ?_|refine ar rv_ ?_)|(refine aA rfl rfl rfl ?_ ?_<;>(intro hc;try (exfalso;omega)))|(refine aW (m:=1) rv_ ir_ rfl rfl (by omega) ?_;intro va hpa hra hka hria)|refine bk (cs:=[AV.int _ _]) rfl rfl ?_)|(apply gx;first|apply af|refine ae rfl ?_|refine ak rfl ?_)|apply aa
  refine HI rfl (by omega) (by omega) ?_
  repeat' first|apply ad|(apply gw;first|(apply gq0;first|refine am rfl ?_|refine ar rv_ ?_)|refine aI rfl nt_ ?_)|(apply gx;first|apply af|refine ae rfl ?_)|apply aa
  have e1:18446744073709551616-(x+18446744073709551616)=(x.natAbs:Int):=by omega
  rw[e1]
  refine ce (pv L hra (by omega) x.natAbs (by omega)) ?_
  rintro va2 h2 ⟨k1,k2,k3⟩
  have hnt2:=k1.notTup
  repeat' first|apply ad|refine ar rv_ ?_|apply aM|apply aa
  have e2:dM x=45::iU x.natAbs:=by rw[dM,if_pos hx]
  refine aH rfl ⟨?_,fun k hk hv=>?_,fun k hk=>?_⟩
  ·rw[e2]
   rw[show n+(45::iU x.natAbs).length=n+1+(iU x.natAbs).length by simp;omega]
   have e3:cs++bl (45::iU x.natAbs)=cs++[AV.int .u8 45]++bl (iU x.natAbs):=by simp[bl]
   rw[e3]
   exact k1
  ·rw[k2 k (by rw[hka k hk hv];exact hk) fun e=>?_,hka k hk hv]
   rcases hria k e with h|h
   ·exact hv h
   ·exact hk h
  ·rcases k3 k hk with h|h
   ·exact hria k h
   ·by_cases hv:v.rowId=some k
    ·exact .inl hv
    ·right
     apply Classical.byContradiction
     intro hne
     rw[hka k hne hv]at h
     exact hne h
 ·have e2:dM x=iU x.natAbs:=by rw[dM,if_neg hx]
  repeat' first|apply ad|(apply gw;first|(apply gq0;first|refine am rfl ?_|refine aG rfl ?_|refine ar rv_ ?_)|(refine aA rfl rfl rfl ?_ ?_<;>(intro hc;try (exfalso;omega)))|refine aI rfl nt_ ?_|refine tn rfl (by omega) (by omega) ?_)|(apply gx;first|apply af|refine ae rfl ?_|apply az|refine ah rfl ?_)|apply aa
  have e1:x=(x.natAbs:Int):=by omega
  rw[e1]
  refine ce (pv L hrow (by omega) x.natAbs (by omega)) ?_
  rintro va2 h2 ⟨k1,k2,k3⟩
  have hnt2:=k1.notTup
  repeat' first|apply ad|refine ar rv_ ?_|apply aM|apply aa
  rw[← e1,e2]
  exact aH rfl ⟨k1,k2,k3⟩
theorem kn {Φ:Lib}(L:cO Φ){h:ac}{v:AV}{n:Nat}{cs:List AV}(hrow:aC h v 1 n cs)(hn:n≤1073741824)(x:Int)(hx1 : -9223372036854775808≤x)(hx2:x≤9223372036854775807) :
  a8 Φ 118 [v,.int .i64 x,.int .i64 36] h (fun va h'=>aC h' va 1 (n+(dM x).length) (cs++bl (dM x))∧(∀ id,h.get id≠none→v.rowId≠some id→h'.get id=h.get id)∧(∀ id,va.rowId=some id→v.rowId=some id∨h.get id=none)):=by
 have hnt:=hrow.notTup
 refine aY (fun _=>false) rfl L.f118 ?_
 repeat' first|apply ad|(apply gw;first|(apply gq0;first|refine am rfl ?_|refine aG rfl ?_|refine ar rv_ ?_)|refine aI rfl nt_ ?_)|(apply gx;first|apply af|refine ae rfl ?_)|apply aa
 refine ce (yf L hrow hn x hx1 hx2) ?_
 rintro va h' ⟨h1,h2,h3⟩
 have hnt2:=h1.notTup
 repeat' first|apply ad|refine ar rv_ ?_|apply aM|apply aa
 exact aH rfl ⟨h1,h2,h3⟩
end
section
open Go
set_option maxHeartbeats 4000000
attribute [local irreducible] aw bd bm cV bz cu dF bH wop cz a8
structure Dfa where
 parts:Rw (Rw aj)
 next:Rw (Rw Int)
 tags:Rw Int
@[reducible] def Rw.sv (r:Rw aj):AV:=r.av aj.av
@[reducible] def Dfa.av (d:Dfa):List AV:=[d.parts.mv Rw.sv,d.next.mv Rw.iv,d.tags.iv]
@[simp] theorem Kv (l:List (Rw aj)):AV.frozenL (l.map Rw.sv)=true:=ez (fun r=>by simp[AV.frozen]) l
@[simp] theorem KA (d:Dfa):AV.frozenL d.av=true:=by simp[Dfa.av,AV.frozenL,AV.frozen]
def bE (K:List Int)(to:Int):Int:=if to = -1 then -1 else K.getD to.toNat 0
def WAt (h:ac)(id:Nat)(d:Dfa)(K:Rw Int):Prop:=h.get id=some (.cells 0 [d.parts.mv Rw.sv,d.next.mv Rw.iv,d.tags.iv,K.iv])
theorem WAt.keep {h h':ac}{id:Nat}{d:Dfa}{K:Rw Int}(hw:WAt h id d K)(hk:h'.get id=h.get id):WAt h' id d K:=hk.trans hw
theorem sQ {Φ:Lib}(L:cO Φ){h:ac}{id:Nat}{d:Dfa}{K:Rw Int}(hw:WAt h id d K)(to:Int)(ht:to = -1∨0≤to∧to.toNat<K.l.length) :
  a8 Φ 107 [.ptr id 0 0,.int .i64 to] h (fun v h'=>v = .int .i64 (bE K.l to)∧h.Ext h'):=by
 have hw':h.get id=some (.cells 0 [d.parts.mv Rw.sv,d.next.mv Rw.iv,d.tags.iv,K.iv]):=hw
 refine aY (fun _=>false) rfl L.f107 ?_
 by_cases h1:to = -1
 ·subst h1
  repeat' first|apply ad|(apply gw;first|refine am rfl ?_|(refine cn rfl rfl rfl ?_ ?_<;>(intro hc;try (exfalso;omega))))|(apply gx;first|apply af|refine ae rfl ?_|apply aM|refine ak rfl ?_)|apply aa|apply cv|refine aH (v:=AV.int _ _) rfl ?_
  exact⟨rfl,ac.Ext.refl _⟩
 ·obtain⟨x,hx⟩:∃ x,K.l[to.toNat]?=some x:=⟨_,List.getElem?_eq_getElem (by omega)⟩
  repeat' first|apply ad|(apply gw;first|(apply gq0;first|refine am rfl ?_|refine ar (v:=AV.ptr _ _ _) rfl ?_)|(apply gq2;first|refine aB rfl b_ pv_ ?_|refine aq rfl hg_ (by simp) b_ pv_ ?_)|(refine cn rfl rfl rfl ?_ ?_<;>(intro hc;try (exfalso;omega)))|refine au rfl (Nat.zero_add _) ?_|refine ai rfl rfl hx (by omega) rfl ?_|refine br rfl ?_)|(apply gx;first|apply af|refine ae rfl ?_|apply az|apply aM|refine ah rfl ?_)|apply aa|refine aH (v:=AV.int _ _) rfl ?_
  exact⟨by simp[bE,h1,List.getD_eq_getElem?_getD,hx],ac.Ext.refl _⟩
structure Dfa.Fit (d:Dfa)(K:Rw Int):Prop where
 kl:K.l.length=d.next.l.length
 tl:d.tags.l.length=d.next.l.length
 n1:1≤d.next.l.length
 n2:d.next.l.length≤2000
 p2:d.parts.l.length≤2000
 rows:∀ r∈d.next.l,r.l.length=d.parts.l.length
 to:∀ r∈d.next.l,∀ x∈r.l,x = -1∨0≤x∧x.toNat<d.next.l.length
 kr:∀ x∈K.l,-2147483648≤x∧x≤2147483647
theorem od {d:Dfa}{K:Rw Int}(hf:d.Fit K)(to:Int) : -2147483648≤bE K.l to∧bE K.l to≤2147483647:=by
 unfold bE
 split
 ·omega
 ·rw[List.getD_eq_getElem?_getD]
  cases hx:K.l[to.toNat]? with
  | none=>simp
  | some x=>exact hf.kr x (List.mem_of_getElem? hx)
theorem Jf {u:Nat}(h:u<2821109907456):(iU u).length≤8:=sb 7 u (Nat.lt_of_lt_of_le h (by decide))
theorem rE {x:Int}(h1 : -2147483648≤x)(h2:x≤2147483647):(dM x).length≤9:=by
 have:=Jf (u:=x.natAbs) (by omega)
 unfold dM
 split
 ·simp;omega
 ·omega
theorem pb {l:List Int}(h:∀ x∈l,-2147483648≤x∧x≤2147483647):(cp l).length≤10*l.length:=by
 induction l with
 | nil=>simp[cp]
 | cons x l ih =>
  have h1:=ih fun y hy=>h y (by simp[hy])
  have h2:=h x (by simp)
  have h3:=rE h2.1 h2.2
  simp only[cp,List.flatMap_cons,List.length_append,List.length_cons]at h1 ⊢
  omega
theorem pe (l m:List Int):cp (l++m)=cp l++cp m:=by simp[cp]
theorem fD (l m:List UInt8):bl (l++m)=bl l++bl m:=by simp[bl]
theorem HB {Φ:Lib}(L:cO Φ){h:ac}{id:Nat}{d:Dfa}{K:Rw Int}(hw:WAt h id d K)(hf:d.Fit K){s:Nat}{k:Int}{row:Rw Int}(hk:K.l[s]?=some k)(hr:d.next.l[s]?=some row) :
  a8 Φ 123 [.ptr id 0 0,.int .i64 s] h (fun v h'=>v = .str (dM k++cp (row.l.map (bE K.l)))∧h.Ext h'):=by
 have hw':h.get id=some (.cells 0 [d.parts.mv Rw.sv,d.next.mv Rw.iv,d.tags.iv,K.iv]):=hw
 have hs:=lt_of_getElem? hk
 have hs2:=lt_of_getElem? hr
 have hkr:=hf.kr k (List.mem_of_getElem? hk)
 have hk9:=rE hkr.1 hkr.2
 have hrl:=hf.rows row (List.mem_of_getElem? hr)
 have hp2:=hf.p2
 refine aY (fun _=>false) rfl L.f123 ?_
 repeat' first|apply ad|(apply gw;first|(apply gq0;first|refine am rfl ?_|refine ar (v:=AV.ptr _ _ _) rfl ?_|refine ar (v:=AV.str _) rfl ?_)|(apply gq2;first|refine aB rfl b_ pv_ ?_|refine aq rfl hg_ (by simp) b_ pv_ ?_)|refine au rfl (Nat.zero_add _) ?_|refine ai rfl rfl hk (by omega) rfl ?_|refine br rfl ?_|refine aI rfl nt_ ?_)|(apply gx;first|apply af|refine ae rfl ?_)|apply aa
 refine ce (kn L (aC.nil _ _) (by omega) k (by omega) (by omega)) ?_
 rintro v0 h0 ⟨hv0,hk0,hi0⟩
 have hold0:∀ k,h.get k≠none→h0.get k=h.get k:=fun k hk=>hk0 k hk (by simp[AV.rowId])
 have hid:h.get id≠none:=by rw[hw'];simp
 have hw0:=(hold0 id hid).trans hw'
 have hnt:=hv0.notTup
 repeat' first|apply ad|(apply gw;first|(apply gq0;first|refine am rfl ?_|refine ar (v:=AV.ptr _ _ _) rfl ?_|refine ar rv_ ?_)|(apply gq2;first|refine aB rfl b_ pv_ ?_|refine aq rfl hg_ (by simp) b_ pv_ ?_)|refine au rfl (Nat.zero_add _) ?_|refine ai rfl rfl hr (by omega) rfl ?_|refine ay rfl ?_|refine br rfl ?_)|(apply gx;first|apply af|refine ae rfl ?_|apply al)|apply aa
 rw[Nat.zero_add,List.nil_append]at hv0
 refine bD row.l.length (fun i env h'=>∃ v,aC h' v 1 (dM k++cp ((row.l.take i).map (bE K.l))).length (bl (dM k++cp ((row.l.take i).map (bE K.l))))∧(∀ k,h.get k≠none→h'.get k=h.get k)∧(∀ k,v.rowId=some k→h.get k=none)∧env.has [(0,.ptr id 0 0),(5,v),(23,row.iv),(24,.int .i64 row.l.length),(25,.int .i64 i)]) ⟨v0,by simpa[cp] using hv0,hold0,fun k hk=>(hi0 k hk).resolve_left (by simp[AV.rowId]),hh_⟩ ?_
 rintro i env h' hi ⟨v,hv,hold,hown,he⟩
 obtain⟨env,rfl⟩:=he.ex
 clear he
 have hw1:=(hold id hid).trans hw'
 have hnt:=hv.notTup
 have hlen:(dM k++cp ((row.l.take i).map (bE K.l))).length≤20009:=by
  rw[List.length_append]
  have h1:(cp ((row.l.take i).map (bE K.l))).length≤10*((row.l.take i).map (bE K.l)).length:=pb fun x hx=>by
   obtain⟨y,_,rfl⟩:=List.mem_map.1 hx
   exact od hf y
  rw[List.length_map,List.length_take]at h1
  omega
 by_cases hi2:i<row.l.length
 ·obtain⟨x,hx⟩:=aN hi2
  have hxo:=hf.to row (List.mem_of_getElem? hr) x (List.mem_of_getElem? hx)
  repeat' first|apply ad|(apply gw;first|(apply gq0;first|refine am rfl ?_|refine ar (v:=AV.ptr _ _ _) rfl ?_|refine ar rv_ ?_)|refine aB rfl b_ pv_ ?_|(refine aA rfl rfl rfl ?_ ?_<;>(intro hc;try (exfalso;omega)))|refine ai rfl rfl hx (by omega) rfl ?_|refine aI rfl nt_ ?_|(refine aW (m:=1) rv_ ir_ rfl rfl (by omega) ?_;intro va hpa hra hka hria)|refine bk (cs:=[AV.int _ _]) rfl rfl ?_)|(apply gx;first|apply af|refine ae rfl ?_|apply az|apply al|refine ak rfl ?_)|apply aa
  have hne:∀ k,h.get k≠none→v.rowId≠some k:=fun k hk hv=>hk (hown k hv)
  have hold2:∀ k,h.get k≠none→hpa.get k=h.get k:=fun k hk=>(hka k (by rw[hold k hk];exact hk) (hne k hk)).trans (hold k hk)
  have hw2:=(hold2 id hid).trans hw'
  refine kD (by omega) (sQ L (K:=K) hw2 x (by rw[hf.kl];exact hxo)) ?_
  repeat' first|refine aI rfl nt_ ?_
  have hkx:=od hf x
  refine ce (kn L hra (by omega) (bE K.l x) (by omega) (by omega)) ?_
  rintro v2 h2 ⟨hv2,hk2,hi2'⟩
  have hnt2:=hv2.notTup
  have hka2:∀ k,va.rowId=some k→h.get k=none:=fun k hk=>by
   rcases hria k hk with h|h
   ·exact hown k h
   ·apply Classical.byContradiction
    intro hne
    rw[hold k hne]at h
    exact hne h
  repeat' first|apply ad|(apply gw;first|(apply gq0;first|refine am rfl ?_|refine ar rv_ ?_)|refine aQ rfl rfl rfl (by omega) (by omega) ?_)|refine ae rfl ?_|apply aa|apply aD
  refine aO hi2 ⟨v2,?_,fun k hk=>(hk2 k (by rw[hold2 k hk];exact hk) fun e=>hk (hka2 k e)).trans (hold2 k hk),fun k hk=>?_,hh_⟩
  ·have e1:dM k++cp ((row.l.take (i+1)).map (bE K.l))=(dM k++cp ((row.l.take i).map (bE K.l)))++(32::dM (bE K.l x)):=by
    rw[List.take_add_one,hx,List.map_append,pe,List.append_assoc]
    simp[cp]
   rw[e1,fD,List.length_append]
   have e2:bl (32::dM (bE K.l x))=[AV.int .u8 32]++bl (dM (bE K.l x)):=rfl
   rw[e2,← List.append_assoc,List.length_cons,Nat.add_comm _ 1,← Nat.add_assoc]
   exact hv2
  ·rcases hi2' k hk with h|h
   ·exact hka2 k h
   ·apply Classical.byContradiction
    intro hne
    rw[hold2 k hne]at h
    exact hne h
 ·have hii:i=row.l.length:=by omega
  rw[List.take_of_length_le (by omega)]at hv
  have hns:v.isStr=false:=by rcases hv with⟨rfl,_⟩|⟨_,_,rfl,_⟩<;>rfl
  repeat' first|apply ad|(apply gw;first|refine ar rv_ ?_|(refine aA rfl rfl rfl ?_ ?_<;>(intro hc;try (exfalso;omega))))|(apply gx;first|apply af|refine ae rfl ?_|apply aJ|refine ah rfl ?_)|apply aa|apply aK|apply aL|apply aR
  refine lF rfl hns (f8 hv) ?_
  repeat' first|apply ad|refine ar (v:=AV.str _) rfl ?_|apply aM|apply aa
  refine aH rfl ⟨rfl,fun k o e=>?_⟩
  exact(hold k (by rw[e];simp)).trans e
end
end Go.Proofs.YtlnobeojgifojaaGreatDoor
