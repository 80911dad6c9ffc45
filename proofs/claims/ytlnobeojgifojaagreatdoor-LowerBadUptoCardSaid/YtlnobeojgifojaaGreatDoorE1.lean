/- Single steps: unsigned numbers, strings, arrays, maps. Numbers as texts, by base 36. A machine at one place, being made least: kinds, texts. -/
import Derived.Test.YtlnobeojgifojaaGreatDoorB2
import Derived.Test.YtlnobeojgifojaaGreatDoorCC
import Derived.Test.YtlnobeojgifojaaGreatDoorD7
set_option linter.unusedVariables false
set_option linter.unusedSimpArgs false
namespace Go.Proofs.YtlnobeojgifojaaGreatDoor
section
open Go
def bl (s:List UInt8):List AV:=s.map fun b => .int .u8 b.toNat
theorem nc (s:List UInt8):(bl s).length=s.length:=by simp[bl]
theorem vE (s:List UInt8):mu (bl s)=some s:=by
 induction s with
 | nil=>rfl
 | cons b s ih =>
  have:bl (b::s) = .int .u8 b.toNat::bl s:=rfl
  rw[this,mu,ih]
  simp
section
variable {F:bT} {r:List bF} {Q:Env→ac→Prop} {env:Env} {h:ac} {d:Nat} {x y z c:bt}
theorem HZ {a b s}(hx:ev env x = .int .u64 a)(hy:ev env y = .int .u64 b)(hs:a-b=s)(h1:0≤s)(h2:s≤18446744073709551615)(k:aw F r Q (env.put d (.int .u64 s)) h):aw F (⟨some d,.bin .sub x y,none⟩::r) Q env h:=by
 subst hs
 have:IntKind.u64.wrap (a-b)=a-b:=by simp[IntKind.wrap,IntKind.bits,IntKind.signed];omega
 simp[hx,hy,this,k]
theorem H3 {a b s}(hx:ev env x = .int .u64 a)(hy:ev env y = .int .u64 b)(hs:a*b=s)(h1:0≤s)(h2:s≤18446744073709551615)(k:aw F r Q (env.put d (.int .u64 s)) h):aw F (⟨some d,.bin .mul x y,none⟩::r) Q env h:=by
 subst hs
 have:IntKind.u64.wrap (a*b)=a*b:=by simp[IntKind.wrap,IntKind.bits,IntKind.signed];omega
 simp[hx,hy,this,k]
theorem H0 {a b}(hx:ev env x = .int .u64 a)(hy:ev env y = .int .u64 b)(h0:0≤a)(h1:0<b)(h2:a≤18446744073709551615)(k1:aw F r Q (env.put d (.int .u64 (a / b))) h):aw F (⟨some d,.bin .quo x y,none⟩::r) Q env h:=by
 have hb:b≠0:=by omega
 have e:a.tdiv b=a / b:=Int.tdiv_eq_ediv_of_nonneg h0
 have l1:0≤a / b:=Int.ediv_nonneg h0 (by omega)
 have l2:a / b≤a:=Int.ediv_le_self b h0
 have:IntKind.u64.wrap (a.tdiv b)=a / b:=by rw[e];simp[IntKind.wrap,IntKind.bits,IntKind.signed];omega
 simp[hx,hy,hb,this,k1]
theorem tx {k a}(hx:ev env x = .int k a)(h0:0≤a)(h1:a≤18446744073709551615)(k1:aw F r Q (env.put d (.int .u64 a)) h):aw F (⟨some d,.conv .u64 x,none⟩::r) Q env h:=by
 have:IntKind.u64.wrap a=a:=by simp[IntKind.wrap,IntKind.bits,IntKind.signed];omega
 simp[hx,this,k1]
theorem xo {k a}(hx:ev env x = .int k a)(h0:a<0)(h1 : -9223372036854775808≤a)(k1:aw F r Q (env.put d (.int .u64 (a+18446744073709551616))) h):aw F (⟨some d,.conv .u64 x,none⟩::r) Q env h:=by
 have:IntKind.u64.wrap a=a+18446744073709551616:=by simp[IntKind.wrap,IntKind.bits,IntKind.signed];omega
 simp[hx,this,k1]
theorem H2 {a}(hx:ev env x = .int .u64 a)(h0:0<a)(h1:a≤18446744073709551615)(k1:aw F r Q (env.put d (.int .u64 (18446744073709551616-a))) h):aw F (⟨some d,.un .neg x,none⟩::r) Q env h:=by
 have:IntKind.u64.wrap (-a)=18446744073709551616-a:=by simp[IntKind.wrap,IntKind.bits,IntKind.signed];omega
 simp[hx,this,k1]
theorem r7 {s k j b}(hx:ev env x = .str s)(hy:ev env y = .int k j)(h0:0≤j)(h1:j<s.length)(hb:s.getD j.toNat 0=b)(k1:aw F r Q (env.put d (.int .u8 b.toNat)) h):aw F (⟨some d,.indexStr x y,none⟩::r) Q env h:=by
 subst hb
 have:j<s.length:=h1
 simp only[bM,xa,aT,hx,hy,bE]
 rw[if_pos ⟨h0,h1⟩]
 exact k1
theorem nH {n e id g o k j s}(hx:ev env x = .ptr id g o)(hy:ev env y = .int k j)(h0:0≤j)(h1:j<(n:Nat))(hs:o+j.toNat*e=s)(k1:aw F r Q (env.put d (.ptr id g s)) h):aw F (⟨some d,.indexAddrA n e x y,none⟩::r) Q env h:=by
 subst hs
 simp only[bM,tj,aT,hx,hy,bE]
 rw[if_pos ⟨h0,h1⟩]
 exact k1
theorem xl {n e id g k j cs}(hx:ev env x = .ptr id g 0)(hy:ev env y = .int k j)(hg:h.get id=some (.cells g cs))(hl:n*e≤cs.length)(h0:0≤j)(h1:j≤(n:Nat))(k1:aw F r Q (env.put d (.own id g e j.toNat (n-j).toNat (some (n-j.toNat)))) h):aw F (⟨some d,.sliceA n e x (some y) none,none⟩::r) Q env h:=by
 simp only[bM,Av,bf,hx,hy,hg,bE,eP,Option.bind_some]
 rw[if_pos ⟨trivial,hl,h0,h1,Int.le_refl _⟩]
 exact k1
theorem lJ {v m s}(hx:ev env x=v)(hi:v.isStr=false)(hs:bv h 1 v=some (m,bl s))(k1:aw F r Q (env.put d (.str s)) h):aw F (⟨some d,.strOf x,none⟩::r) Q env h:=by
 simp only[bM,CL,bf,hx,hs,bE,hi,Option.bind_some,vE,Option.map_some]
 exact k1
theorem lK {kk}(k1:∀ id,h.get id=none→aw F r Q (env.put d (.map id)) (h.set id (.map kk []))):aw F (⟨some d,.mkmap kk,none⟩::r) Q env h:=by
 simp only[bM,CM,bE]
 exact k1
theorem lL {id kk es}(hx:ev env x = .map id)(hg:h.get id=some (.map kk es))(k1:aw F r Q (env.put d (.int .i64 es.length)) h):aw F (⟨some d,.len 2 x,none⟩::r) Q env h:=by
 simp only[bM,BS,bf,hx,hg,bE]
 exact k1
theorem wc {kk zero id es key}(hx:ev env x = .map id)(hy:ev env y=key)(hk:j7 kk key=true)(hg:h.get id=some (.map kk es))(k1:aw F r Q (env.put d ((iL es key).getD zero)) h):aw F (⟨some d,.lookup kk zero false x y,none⟩::r) Q env h:=by
 simp only[bM,th,bf,hx,hy,hg,bE,hk,if_true]
 exact k1
theorem jh {kk zero id es key}(hx:ev env x = .map id)(hy:ev env y=key)(hk:j7 kk key=true)(hg:h.get id=some (.map kk es))(k1:aw F r Q (env.put d (.tup [(iL es key).getD zero,.bool (iL es key).isSome])) h):aw F (⟨some d,.lookup kk zero true x y,none⟩::r) Q env h:=by
 simp only[bM,th,bf,hx,hy,hg,bE,hk,if_true]
 exact k1
theorem gQ {kk id es key v}(hx:ev env x = .map id)(hy:ev env y=key)(hz:ev env z=v)(hk:j7 kk key=true)(hv:v.isVal=true)(hg:h.get id=some (.map kk es))(k1:aw F r Q env (h.set id (.map kk (l5 es key v)))):aw F (⟨none,.update kk x y z,none⟩::r) Q env h:=by
 simp only[bM,Au,dn,hx,hy,hz,hg,hk,hv,and_self,if_true,sb]
 exact k1
end
end
section
open Go
set_option maxHeartbeats 4000000
attribute [local irreducible] aw bg bm dg bz cw dO bH wop cz a8
def JO:List UInt8:=[48,49,50,51,52,53,54,55,56,57,97,98,99,100,101,102,103,104,105,106,107,108,109,110,111,112,113,114,115,116,117,118,119,120,121,122]
def jP (n:Nat):UInt8:=JO.getD n 0
def iW (u:Nat):List UInt8:=if h:u<36 then [jP u] else iW (u / 36)++[jP (u%36)]
termination_by u
decreasing_by omega
def dM (x:Int):List UInt8:=if x<0 then 45::iW x.natAbs else iW x.natAbs
theorem jK {u:Nat}(h:u<36):iW u=[jP u]:=by rw[iW,dif_pos h]
theorem j6 {u:Nat}(h:¬ u<36):iW u=iW (u / 36)++[jP (u%36)]:=by rw[iW,dif_neg h]
theorem uf (u:Nat):1≤(iW u).length:=by
 by_cases h:u<36
 ·rw[jK h];simp
 ·rw[j6 h];simp
theorem sf (k:Nat):∀ u:Nat,u<36 ^ (k+1)→(iW u).length≤k+1:=by
 induction k with
 | zero=>intro u h;rw[jK (by simpa using h)];simp
 | succ k ih =>
  intro u h
  by_cases h1:u<36
  ·rw[jK h1];simp
  ·rw[j6 h1]
   have:=ih (u / 36) (by rw[Nat.div_lt_iff_lt_mul (by omega)];rw[Nat.pow_succ]at h;exact h)
   simp
   omega
theorem Ip {u:Nat}(h:u<18446744073709551616):(iW u).length≤13:=sf 12 u (Nat.lt_of_lt_of_le h (by decide))
theorem wP:∀ a,a<36→∀ b,b<36→jP a=jP b→a=b:=by decide
theorem zZ:∀ a,a<36→jP a≠32∧jP a≠45:=by decide
theorem sW {u:Nat}:∀ c∈iW u,c≠32∧c≠45:=by
 induction u using Nat.strongRecOn with
 | ind u ih =>
  by_cases h:u<36
  ·rw[jK h]
   intro c hc
   obtain rfl:=List.mem_singleton.1 hc
   exact zZ u h
  ·rw[j6 h]
   intro c hc
   rcases List.mem_append.1 hc with hc|hc
   ·exact ih (u / 36) (by omega) c hc
   ·obtain rfl:=List.mem_singleton.1 hc
    exact zZ _ (Nat.mod_lt _ (by omega))
theorem zy {u v:Nat}(e:iW u=iW v):u=v:=by
 induction u using Nat.strongRecOn generalizing v with
 | ind u ih =>
  by_cases h:u<36<;>by_cases h2:v<36
  ·rw[jK h,jK h2]at e
   exact wP u h v h2 (by simpa using e)
  ·rw[jK h,j6 h2]at e
   have h3:=congrArg List.length e
   have h4:=uf (v / 36)
   simp only[List.length_append,List.length_cons,List.length_nil]at h3
   omega
  ·rw[j6 h,jK h2]at e
   have h3:=congrArg List.length e
   have h4:=uf (u / 36)
   simp only[List.length_append,List.length_cons,List.length_nil]at h3
   omega
  ·rw[j6 h,j6 h2]at e
   obtain⟨e1,e2⟩:=List.append_inj' e rfl
   have:=ih (u / 36) (by omega) e1
   have:=wP _ (Nat.mod_lt _ (by omega)) _ (Nat.mod_lt _ (by omega)) (by simpa using e2)
   omega
theorem sY {x:Int}:∀ c∈dM x,c≠32:=by
 intro c hc
 unfold dM at hc
 split at hc
 ·rcases List.mem_cons.1 hc with rfl|hc
  ·decide
  ·exact(sW c hc).1
 ·exact(sW c hc).1
theorem ou {x y:Int}(e:dM x=dM y):x=y:=by
 unfold dM at e
 split at e<;>split at e
 ·have:=zy (List.cons.inj e).2
  omega
 ·have h1:(45:UInt8)∈iW y.natAbs:=e ▸ List.mem_cons_self
  exact absurd rfl (sW _ h1).2
 ·have h1:(45:UInt8)∈iW x.natAbs:=e.symm ▸ List.mem_cons_self
  exact absurd rfl (sW _ h1).2
 ·have:=zy e
  omega
def cn (l:List Int):List UInt8:=l.flatMap fun x=>32::dM x
theorem wh {a b r s:List UInt8}(ha:∀ c∈a,c≠32)(hb:∀ c∈b,c≠32)(hr:∀ c,r.head?=some c→c=32)(hs:∀ c,s.head?=some c→c=32)(e:a++r=b++s):a=b∧r=s:=by
 induction a generalizing b with
 | nil =>
  cases b with
  | nil=>exact⟨rfl,e⟩
  | cons c b =>
   simp at e
   have h1:=hr c (by rw[e];rfl)
   exact absurd h1 (hb c (by simp))
 | cons x a ih =>
  cases b with
  | nil =>
   simp at e
   have h1:=hs x (by rw[← e];rfl)
   exact absurd h1 (ha x (by simp))
  | cons c b =>
   simp at e
   obtain⟨h1,h2⟩:=ih (fun c hc=>ha c (by simp[hc])) (fun c hc=>hb c (by simp[hc])) e.2
   exact⟨by rw[e.1,h1],h2⟩
theorem mc (l:List Int):∀ c,(cn l).head?=some c→c=32:=by
 cases l with
 | nil=>intro c hc;cases hc
 | cons x l=>intro c hc;simp[cn]at hc;exact hc.symm
theorem pH:∀ {l m:List Int},cn l=cn m→l=m
 | [],[],_=>rfl
 | [],_::_,e=>by simp[cn]at e
 | _::_,[],e=>by simp[cn]at e
 | x::l,y::m,e=>by
  have e1:dM x++cn l=dM y++cn m:=by
   simp only[cn,List.flatMap_cons,List.cons_append]at e
   exact(List.cons.inj e).2
  obtain⟨h1,h2⟩:=wh sY sY (mc l) (mc m) e1
  rw[ou h1,pH h2]
theorem CY {x y:Int}{l m:List Int}(e:dM x++cn l=dM y++cn m):x=y∧l=m:=by
 obtain⟨h1,h2⟩:=wh sY sY (mc l) (mc m) e
 exact⟨ou h1,pH h2⟩
theorem qX {as:List AV}{i:Nat}{suf:List UInt8}{d:UInt8}(has:as.length=65)(hi:1≤i∧i≤65)(hdr:as.drop i=bl suf):(as.set (i-1) (.int .u8 d.toNat)).drop (i-1)=bl (d::suf):=by
 rw[List.drop_set,if_neg (by omega),Nat.sub_self]
 rw[List.drop_eq_getElem_cons (by omega:i-1<as.length),List.set_cons_zero,show i-1+1=i by omega,hdr]
 rfl
theorem u9 {h:ac}{id g e off len m:Nat}{lim:Option Nat}{cs new:List AV}(hg:h.get id=some (.cells g cs))(hm:len=m)(hl:(off+len)*e≤cs.length)(hn:(cs.drop (off*e)).take (len*e)=new):bv h e (.own id g e off len lim)=some (m,new):=by
 subst hm hn
 simp only[bv,hg]
 rw[if_pos ⟨trivial,trivial,hl⟩]
theorem zb {env:Env}{h:ac}{a b:Nat}{v w:AV}(h1:env a=v)(h2:env b=w)(n1:v.isTup=false)(n2:w.isTup=false):fh env h [.tmp a,.tmp b]=some (.tup [v,w]):=by
 subst h1 h2
 have:fh env h [.tmp a,.tmp b]=if [env a,env b].all (fun x => !x.isTup)=true then some (.tup [env a,env b]) else none:=rfl
 rw[this,if_pos]
 rw[List.all_cons,List.all_cons,n1,n2]
 rfl
theorem If {Φ:Lib}(L:cP Φ):fg Φ 146 [.int .i64 36] (.bool false):=by
 refine aY (fun _=>false) rfl L.f146 ?_
 repeat' first|apply ad|(apply gw;first|(apply gq0;first|refine am rfl ?_|refine bj rfl ?_)|refine eS rfl rfl rfl (by omega) (by omega) ?_)|(apply gx;first|apply af|refine ae rfl ?_)|apply aa
 refine eJ rfl (v := .int .i64 32) rfl ?_
 repeat' first|apply ad|(apply gw;first|refine bj rfl ?_|(refine cq rfl rfl rfl ?_ ?_<;>(intro hc;try (exfalso;omega))))|apply aJ|apply aa|refine aH (v:=AV.bool _) rfl ?_
 rfl
theorem vz {Φ:Lib}(L:cP Φ){h:ac}{v:AV}{n:Nat}{cs:List AV}(hrow:aC h v 1 n cs)(hn:n≤2147483648)(u:Nat)(hu:u<18446744073709551616) :
  a8 Φ 140 [v,.int .u64 u,.int .i64 36,.bool false,.bool true] h (fun v' h'=>∃ va,v' = .tup [va,.str []]∧aC h' va 1 (n+(iW u).length) (cs++bl (iW u))∧(∀ id,h.get id≠none→v.rowId≠some id→h'.get id=h.get id)∧(∀ id,va.rowId=some id→v.rowId=some id∨h.get id=none)):=by
 have hp:=If L
 have hnt:=hrow.notTup
 refine aY (fun _=>false) rfl L.f140 ?_
 repeat' first|apply ad|(apply gw;first|(apply gq0;first|refine am rfl ?_|refine bj rfl ?_|refine aG rfl ?_|refine aq (v:=AV.str _) rfl ?_)|refine bP rfl ?_|(apply gq3;first|(refine aA rfl rfl rfl ?_ ?_<;>(intro hc;try (exfalso;omega)))|(refine cY rfl rfl rfl ?_ ?_<;>(intro hc;try (exfalso;omega)))|(refine cq rfl rfl rfl ?_ ?_<;>(intro hc;try (exfalso;omega))))|refine bc rfl rfl ?_|refine aI rfl nt_ ?_|(refine bZ ?_;intro id hid;try simp only[ac.set_none]at hid)|refine tx rfl (by omega) (by omega) ?_)|(apply gx;first|apply af|refine ae rfl ?_|apply ay|apply al|refine ah rfl ?_)|apply aa|refine aU (by assumption) fz_ fz_ ?_
 have h13:=Ip hu
 have hfr:∀ k,h.get k≠none→k≠id:=fun k hk e=>hk (e ▸ hid)
 refine iq (fun m env h'=>∃ (w i:Nat) (suf:List UInt8) (as:List AV),m=w∧w≤u∧suf.length+i=65∧iW w++suf=iW u∧as.length=65∧as.drop i=bl suf∧h'.get id=some (.cells 0 as)∧(∀ k,h.get k≠none→h'.get k=h.get k)∧env.has [(0,v),(1,.int .u64 w),(3,.bool false),(4,.bool true),(11,.str []),(12,.ptr id 0 0),(13,.int .i64 i),(17,.int .u64 36)]) u ⟨u,65,[],_,rfl,Nat.le_refl _,rfl,by simp,rfl,rfl,ac.get_set_self _ _ _,fun k hk=>ac.get_set_ne _ _ (hfr k hk),hh_⟩ ?_
 rintro m env h' ⟨w,i,suf,as,rfl,hwu,hsi,hns,has,hdr,hga,hold,he⟩
 obtain⟨env,rfl⟩:=he.ex
 clear he
 have hlen:=congrArg List.length hns
 rw[List.length_append]at hlen
 by_cases hw:36≤m
 ·have h1:=uf (m / 36)
  have h2:(iW m).length=(iW (m / 36)).length+1:=by rw[j6 (by omega)];simp
  repeat' first|apply ad|(apply gw;first|refine am rfl ?_|(apply gq3;first|refine eS rfl rfl rfl (by omega) (by omega) ?_|(refine fp rfl rfl rfl ?_ ?_<;>(intro hc;try (exfalso;omega)))|refine HZ rfl rfl rfl (by omega) (by omega) ?_|refine H3 rfl rfl rfl (by omega) (by omega) ?_|refine H0 rfl rfl (by omega) (by omega) (by omega) ?_)|refine bh (v:=AV.int _ _) rfl rfl hg_ rfl rfl b_ sv_ ?_|refine r7 rfl rfl (by omega) (by first|(simp;done)|(simp;omega)|omega) rfl ?_|refine nH rfl rfl (by omega) (by omega) rfl ?_)|(apply gx;first|apply af|refine ae rfl ?_|apply ay|apply al|refine ak rfl ?_)|apply aa|apply aF
  rw[show((i:Int)-1)=((i-1:Nat):Int) by omega]
  refine fA (m / 36) (by omega) ⟨m / 36,i-1,jP (m%36)::suf,_,rfl,by omega,by simp;omega,?_,by rw[List.length_set];exact has,?_,ac.get_set_self _ _ _,fun k hk=>(ac.get_set_ne _ _ (hfr k hk)).trans (hold k hk),hh_⟩
  ·rw[← hns,j6 (show ¬ m<36 by omega)]
   simp
  ·rw[Int.toNat_natCast,Nat.mul_one,show((m:Int)-(m:Int) / 36*36).toNat=m%36 by omega]
   exact qX has ⟨by omega,by omega⟩ hdr
 ·have hi:(iW m).length=1:=by rw[jK (by omega)];rfl
  have e1:iW u=jP m::suf:=by rw[← hns,jK (by omega)];rfl
  repeat' first|apply ad|(apply gw;first|(apply gq0;first|refine am rfl ?_|refine bj rfl ?_|refine aq rv_ ?_)|(apply gq3;first|refine eS rfl rfl rfl (by omega) (by omega) ?_|(refine fp rfl rfl rfl ?_ ?_<;>(intro hc;try (exfalso;omega))))|refine bh (v:=AV.int _ _) rfl rfl hg_ rfl rfl b_ sv_ ?_|refine r7 rfl rfl (by omega) (by first|(simp;done)|(simp;omega)|omega) rfl ?_|refine nH rfl rfl (by omega) (by omega) rfl ?_)|(apply gx;first|apply af|refine ae rfl ?_|apply ay|apply aL|refine ak rfl ?_|refine ah rfl ?_)|apply aa|apply aM|apply aN|apply aR
  rw[show((i:Int)-1)=((i-1:Nat):Int) by omega]
  have hd:=qX (d:=jP m) has ⟨by omega,by omega⟩ hdr
  rw[← e1]at hd
  refine xl rfl rfl (ac.get_set_self _ _ _) (by rw[List.length_set,has];exact Nat.le_refl _) (by omega) (by omega) ?_
  have hrow2:∀ ob,aC (h'.set id ob) v 1 n cs:=fun ob=>hrow.keep fun k hk=>(ac.get_set_ne _ _ (hfr k (hrow.there hk))).trans (hold k (hrow.there hk))
  refine iT (n:=n) (m:=(iW u).length) (new:=bl (iW u)) (w := .own id 0 1 _ _ _) rfl (hrow2 _) rfl (u9 (ac.get_set_self _ _ _) ?_ ?_ ?_) (by rw[nc,Nat.mul_one]) (by omega) ?_
  ·rw[e1];simp;omega
  ·rw[List.length_set,has];omega
  ·simp only[Int.toNat_natCast,Nat.mul_one]
   refine(congrArg (List.take _) hd).trans (List.take_of_length_le ?_)
   rw[nc,e1];simp;omega
  ·intro va hb hra hka hia
   repeat' first|apply ad|refine aq rv_ ?_|apply aJ|apply aa|apply cu
   refine aH (v := .tup [va,.str []]) (zb rfl rfl hra.notTup rfl) ⟨va,rfl,hra,fun k hk hv=>(hka k ?_ hv).trans ((ac.get_set_ne _ _ (hfr k hk)).trans (hold k hk)),fun k hk=>?_⟩
   ·rw[ac.get_set_ne _ _ (hfr k hk),hold k hk]
    exact hk
   ·rcases hia k hk with h|h
    ·exact .inl h
    ·right
     apply Classical.byContradiction
     intro hne
     rw[ac.get_set_ne _ _ (hfr k hne),hold k hne]at h
     exact hne h
theorem pF {Φ:Lib}(L:cP Φ){h:ac}{v:AV}{n:Nat}{cs:List AV}(hrow:aC h v 1 n cs)(hn:n≤2147483648)(u:Nat)(hu:u<18446744073709551616) :
  a8 Φ 127 [v,.int .u64 u,.int .i64 36] h (fun va h'=>aC h' va 1 (n+(iW u).length) (cs++bl (iW u))∧(∀ id,h.get id≠none→v.rowId≠some id→h'.get id=h.get id)∧(∀ id,va.rowId=some id→v.rowId=some id∨h.get id=none)):=by
 have hnt:=hrow.notTup
 refine aY (fun _=>false) rfl L.f127 ?_
 repeat' first|apply ad|(apply gw;first|(apply gq0;first|refine am rfl ?_|refine aG rfl ?_|refine aq rv_ ?_)|(refine cq rfl rfl rfl ?_ ?_<;>(intro hc;try (exfalso;omega)))|refine aI rfl nt_ ?_)|(apply gx;first|apply af|refine ae rfl ?_|apply ay|refine ah rfl ?_)|apply aa
 refine cd (vz L hrow hn u hu) ?_
 rintro _ h' ⟨va,rfl,h1,h2,h3⟩
 have hnt2:=h1.notTup
 repeat' first|apply ad|(apply gw;first|(apply gq0;first|refine aq (v:=AV.tup _) rfl ?_|refine aq rv_ ?_)|refine ci rfl rfl ?_)|(apply gx;first|apply af|refine ae rfl ?_|apply aJ)|apply aa
 exact aH rfl ⟨h1,h2,h3⟩
theorem yn {Φ:Lib}(L:cP Φ){h:ac}{v:AV}{n:Nat}{cs:List AV}(hrow:aC h v 1 n cs)(hn:n≤1073741824)(x:Int)(hx1 : -9223372036854775808≤x)(hx2:x≤9223372036854775807) :
  a8 Φ 124 [v,.int .i64 x,.int .i64 36] h (fun va h'=>aC h' va 1 (n+(dM x).length) (cs++bl (dM x))∧(∀ id,h.get id≠none→v.rowId≠some id→h'.get id=h.get id)∧(∀ id,va.rowId=some id→v.rowId=some id∨h.get id=none)):=by
 have hnt:=hrow.notTup
 refine aY (fun _=>false) rfl L.f124 ?_
 by_cases hx:x<0
 ·apply af
  repeat' first|apply ad|(apply gq0;first|refine am rfl ?_|refine aG rfl ?_)|(apply gx;first|apply af|refine ae rfl ?_)|apply aa
  refine xo rfl hx hx1 ?_
  repeat' first|apply ad|(apply gw;first|(apply gq0;first|refine am rfl ?_|refine aq rv_ ?_)|(refine aA rfl rfl rfl ?_ ?_<;>(intro hc;try (exfalso;omega)))|(refine aX (m:=1) rv_ ir_ rfl rfl (by omega) ?_;intro va hpa hra hka hria)|refine bk (cs:=[AV.int _ _]) rfl rfl ?_)|(apply gx;first|apply af|refine ae rfl ?_|refine ak rfl ?_)|apply aa
  refine H2 rfl (by omega) (by omega) ?_
  repeat' first|apply ad|(apply gw;first|(apply gq0;first|refine am rfl ?_|refine aq rv_ ?_)|refine aI rfl nt_ ?_)|(apply gx;first|apply af|refine ae rfl ?_)|apply aa
  have e1:18446744073709551616-(x+18446744073709551616)=(x.natAbs:Int):=by omega
  rw[e1]
  refine cd (pF L hra (by omega) x.natAbs (by omega)) ?_
  rintro va2 h2 ⟨k1,k2,k3⟩
  have hnt2:=k1.notTup
  repeat' first|apply ad|refine aq rv_ ?_|apply aJ|apply aa
  have e2:dM x=45::iW x.natAbs:=by rw[dM,if_pos hx]
  refine aH rfl ⟨?_,fun k hk hv=>?_,fun k hk=>?_⟩
  ·rw[e2]
   rw[show n+(45::iW x.natAbs).length=n+1+(iW x.natAbs).length by simp;omega]
   have e3:cs++bl (45::iW x.natAbs)=cs++[AV.int .u8 45]++bl (iW x.natAbs):=by simp[bl]
   rw[e3]
   exact k1
  ·rw[k2 k (by rw[hka k hk hv];exact hk) fun e=>?_,hka k hk hv]
   rcases hria k e with h|h
   ·exact hv h
   ·exact hk h
  ·rcases k3 k hk with h|h
   ·exact hria k h
   ·by_cases hv:v.rowId=some k
    ·exact .inl hv
    ·right
     apply Classical.byContradiction
     intro hne
     rw[hka k hne hv]at h
     exact hne h
 ·have e2:dM x=iW x.natAbs:=by rw[dM,if_neg hx]
  repeat' first|apply ad|(apply gw;first|(apply gq0;first|refine am rfl ?_|refine aG rfl ?_|refine aq rv_ ?_)|(refine aA rfl rfl rfl ?_ ?_<;>(intro hc;try (exfalso;omega)))|refine aI rfl nt_ ?_|refine tx rfl (by omega) (by omega) ?_)|(apply gx;first|apply af|refine ae rfl ?_|apply ay|refine ah rfl ?_)|apply aa
  have e1:x=(x.natAbs:Int):=by omega
  rw[e1]
  refine cd (pF L hrow (by omega) x.natAbs (by omega)) ?_
  rintro va2 h2 ⟨k1,k2,k3⟩
  have hnt2:=k1.notTup
  repeat' first|apply ad|refine aq rv_ ?_|apply aJ|apply aa
  rw[← e1,e2]
  exact aH rfl ⟨k1,k2,k3⟩
theorem kw {Φ:Lib}(L:cP Φ){h:ac}{v:AV}{n:Nat}{cs:List AV}(hrow:aC h v 1 n cs)(hn:n≤1073741824)(x:Int)(hx1 : -9223372036854775808≤x)(hx2:x≤9223372036854775807) :
  a8 Φ 118 [v,.int .i64 x,.int .i64 36] h (fun va h'=>aC h' va 1 (n+(dM x).length) (cs++bl (dM x))∧(∀ id,h.get id≠none→v.rowId≠some id→h'.get id=h.get id)∧(∀ id,va.rowId=some id→v.rowId=some id∨h.get id=none)):=by
 have hnt:=hrow.notTup
 refine aY (fun _=>false) rfl L.f118 ?_
 repeat' first|apply ad|(apply gw;first|(apply gq0;first|refine am rfl ?_|refine aG rfl ?_|refine aq rv_ ?_)|refine aI rfl nt_ ?_)|(apply gx;first|apply af|refine ae rfl ?_)|apply aa
 refine cd (yn L hrow hn x hx1 hx2) ?_
 rintro va h' ⟨h1,h2,h3⟩
 have hnt2:=h1.notTup
 repeat' first|apply ad|refine aq rv_ ?_|apply aJ|apply aa
 exact aH rfl ⟨h1,h2,h3⟩
end
section
open Go
set_option maxHeartbeats 4000000
attribute [local irreducible] aw bg bm dg bz cw dO bH wop cz a8
structure Dfa where
 parts:Rw (Rw ai)
 next:Rw (Rw Int)
 tags:Rw Int
@[reducible] def Rw.sv (r:Rw ai):AV:=r.av ai.av
@[reducible] def Dfa.av (d:Dfa):List AV:=[d.parts.mv Rw.sv,d.next.mv Rw.iv,d.tags.iv]
@[simp] theorem KO (l:List (Rw ai)):AV.frozenL (l.map Rw.sv)=true:=eF (fun r=>by simp[AV.frozen]) l
@[simp] theorem KT (d:Dfa):AV.frozenL d.av=true:=by simp[Dfa.av,AV.frozenL,AV.frozen]
def bD (K:List Int)(to:Int):Int:=if to = -1 then -1 else K.getD to.toNat 0
def WAt (h:ac)(id:Nat)(d:Dfa)(K:Rw Int):Prop:=h.get id=some (.cells 0 [d.parts.mv Rw.sv,d.next.mv Rw.iv,d.tags.iv,K.iv])
theorem WAt.keep {h h':ac}{id:Nat}{d:Dfa}{K:Rw Int}(hw:WAt h id d K)(hk:h'.get id=h.get id):WAt h' id d K:=hk.trans hw
theorem sX {Φ:Lib}(L:cP Φ){h:ac}{id:Nat}{d:Dfa}{K:Rw Int}(hw:WAt h id d K)(to:Int)(ht:to = -1∨0≤to∧to.toNat<K.l.length) :
  a8 Φ 107 [.ptr id 0 0,.int .i64 to] h (fun v h'=>v = .int .i64 (bD K.l to)∧h.Ext h'):=by
 have hw':h.get id=some (.cells 0 [d.parts.mv Rw.sv,d.next.mv Rw.iv,d.tags.iv,K.iv]):=hw
 refine aY (fun _=>false) rfl L.f107 ?_
 by_cases h1:to = -1
 ·subst h1
  repeat' first|apply ad|(apply gw;first|refine am rfl ?_|(refine cq rfl rfl rfl ?_ ?_<;>(intro hc;try (exfalso;omega))))|(apply gx;first|apply af|refine ae rfl ?_|apply aJ|refine ak rfl ?_)|apply aa|apply cu|refine aH (v:=AV.int _ _) rfl ?_
  exact⟨rfl,ac.Ext.refl _⟩
 ·obtain⟨x,hx⟩:∃ x,K.l[to.toNat]?=some x:=⟨_,List.getElem?_eq_getElem (by omega)⟩
  repeat' first|apply ad|(apply gw;first|(apply gq0;first|refine am rfl ?_|refine aq (v:=AV.ptr _ _ _) rfl ?_)|(apply gq2;first|refine aB rfl b_ pv_ ?_|refine ar rfl hg_ (by simp) b_ pv_ ?_)|(refine cq rfl rfl rfl ?_ ?_<;>(intro hc;try (exfalso;omega)))|refine au rfl (Nat.zero_add _) ?_|refine aj rfl rfl hx (by omega) rfl ?_|refine bq rfl ?_)|(apply gx;first|apply af|refine ae rfl ?_|apply ay|apply aJ|refine ah rfl ?_)|apply aa|refine aH (v:=AV.int _ _) rfl ?_
  exact⟨by simp[bD,h1,List.getD_eq_getElem?_getD,hx],ac.Ext.refl _⟩
structure Dfa.Fit (d:Dfa)(K:Rw Int):Prop where
 kl:K.l.length=d.next.l.length
 tl:d.tags.l.length=d.next.l.length
 n1:1≤d.next.l.length
 n2:d.next.l.length≤2000
 p2:d.parts.l.length≤2000
 rows:∀ r∈d.next.l,r.l.length=d.parts.l.length
 to:∀ r∈d.next.l,∀ x∈r.l,x = -1∨0≤x∧x.toNat<d.next.l.length
 kr:∀ x∈K.l,-2147483648≤x∧x≤2147483647
theorem oq {d:Dfa}{K:Rw Int}(hf:d.Fit K)(to:Int) : -2147483648≤bD K.l to∧bD K.l to≤2147483647:=by
 unfold bD
 split
 ·omega
 ·rw[List.getD_eq_getElem?_getD]
  cases hx:K.l[to.toNat]? with
  | none=>simp
  | some x=>exact hf.kr x (List.mem_of_getElem? hx)
theorem JA {u:Nat}(h:u<2821109907456):(iW u).length≤8:=sf 7 u (Nat.lt_of_lt_of_le h (by decide))
theorem rI {x:Int}(h1 : -2147483648≤x)(h2:x≤2147483647):(dM x).length≤9:=by
 have:=JA (u:=x.natAbs) (by omega)
 unfold dM
 split
 ·simp;omega
 ·omega
theorem pn {l:List Int}(h:∀ x∈l,-2147483648≤x∧x≤2147483647):(cn l).length≤10*l.length:=by
 induction l with
 | nil=>simp[cn]
 | cons x l ih =>
  have h1:=ih fun y hy=>h y (by simp[hy])
  have h2:=h x (by simp)
  have h3:=rI h2.1 h2.2
  simp only[cn,List.flatMap_cons,List.length_append,List.length_cons]at h1 ⊢
  omega
theorem pp (l m:List Int):cn (l++m)=cn l++cn m:=by simp[cn]
theorem fI (l m:List UInt8):bl (l++m)=bl l++bl m:=by simp[bl]
theorem HV {Φ:Lib}(L:cP Φ){h:ac}{id:Nat}{d:Dfa}{K:Rw Int}(hw:WAt h id d K)(hf:d.Fit K){s:Nat}{k:Int}{row:Rw Int}(hk:K.l[s]?=some k)(hr:d.next.l[s]?=some row) :
  a8 Φ 123 [.ptr id 0 0,.int .i64 s] h (fun v h'=>v = .str (dM k++cn (row.l.map (bD K.l)))∧h.Ext h'):=by
 have hw':h.get id=some (.cells 0 [d.parts.mv Rw.sv,d.next.mv Rw.iv,d.tags.iv,K.iv]):=hw
 have hs:=lt_of_getElem? hk
 have hs2:=lt_of_getElem? hr
 have hkr:=hf.kr k (List.mem_of_getElem? hk)
 have hk9:=rI hkr.1 hkr.2
 have hrl:=hf.rows row (List.mem_of_getElem? hr)
 have hp2:=hf.p2
 refine aY (fun _=>false) rfl L.f123 ?_
 repeat' first|apply ad|(apply gw;first|(apply gq0;first|refine am rfl ?_|refine aq (v:=AV.ptr _ _ _) rfl ?_|refine aq (v:=AV.str _) rfl ?_)|(apply gq2;first|refine aB rfl b_ pv_ ?_|refine ar rfl hg_ (by simp) b_ pv_ ?_)|refine au rfl (Nat.zero_add _) ?_|refine aj rfl rfl hk (by omega) rfl ?_|refine bq rfl ?_|refine aI rfl nt_ ?_)|(apply gx;first|apply af|refine ae rfl ?_)|apply aa
 refine cd (kw L (aC.nil _ _) (by omega) k (by omega) (by omega)) ?_
 rintro v0 h0 ⟨hv0,hk0,hi0⟩
 have hold0:∀ k,h.get k≠none→h0.get k=h.get k:=fun k hk=>hk0 k hk (by simp[AV.rowId])
 have hid:h.get id≠none:=by rw[hw'];simp
 have hw0:=(hold0 id hid).trans hw'
 have hnt:=hv0.notTup
 repeat' first|apply ad|(apply gw;first|(apply gq0;first|refine am rfl ?_|refine aq (v:=AV.ptr _ _ _) rfl ?_|refine aq rv_ ?_)|(apply gq2;first|refine aB rfl b_ pv_ ?_|refine ar rfl hg_ (by simp) b_ pv_ ?_)|refine au rfl (Nat.zero_add _) ?_|refine aj rfl rfl hr (by omega) rfl ?_|refine az rfl ?_|refine bq rfl ?_)|(apply gx;first|apply af|refine ae rfl ?_|apply al)|apply aa
 rw[Nat.zero_add,List.nil_append]at hv0
 refine bG row.l.length (fun i env h'=>∃ v,aC h' v 1 (dM k++cn ((row.l.take i).map (bD K.l))).length (bl (dM k++cn ((row.l.take i).map (bD K.l))))∧(∀ k,h.get k≠none→h'.get k=h.get k)∧(∀ k,v.rowId=some k→h.get k=none)∧env.has [(0,.ptr id 0 0),(5,v),(23,row.iv),(24,.int .i64 row.l.length),(25,.int .i64 i)]) ⟨v0,by simpa[cn] using hv0,hold0,fun k hk=>(hi0 k hk).resolve_left (by simp[AV.rowId]),hh_⟩ ?_
 rintro i env h' hi ⟨v,hv,hold,hown,he⟩
 obtain⟨env,rfl⟩:=he.ex
 clear he
 have hw1:=(hold id hid).trans hw'
 have hnt:=hv.notTup
 have hlen:(dM k++cn ((row.l.take i).map (bD K.l))).length≤20009:=by
  rw[List.length_append]
  have h1:(cn ((row.l.take i).map (bD K.l))).length≤10*((row.l.take i).map (bD K.l)).length:=pn fun x hx=>by
   obtain⟨y,_,rfl⟩:=List.mem_map.1 hx
   exact oq hf y
  rw[List.length_map,List.length_take]at h1
  omega
 by_cases hi2:i<row.l.length
 ·obtain⟨x,hx⟩:=aK hi2
  have hxo:=hf.to row (List.mem_of_getElem? hr) x (List.mem_of_getElem? hx)
  repeat' first|apply ad|(apply gw;first|(apply gq0;first|refine am rfl ?_|refine aq (v:=AV.ptr _ _ _) rfl ?_|refine aq rv_ ?_)|refine aB rfl b_ pv_ ?_|(refine aA rfl rfl rfl ?_ ?_<;>(intro hc;try (exfalso;omega)))|refine aj rfl rfl hx (by omega) rfl ?_|refine aI rfl nt_ ?_|(refine aX (m:=1) rv_ ir_ rfl rfl (by omega) ?_;intro va hpa hra hka hria)|refine bk (cs:=[AV.int _ _]) rfl rfl ?_)|(apply gx;first|apply af|refine ae rfl ?_|apply ay|apply al|refine ak rfl ?_)|apply aa
  have hne:∀ k,h.get k≠none→v.rowId≠some k:=fun k hk hv=>hk (hown k hv)
  have hold2:∀ k,h.get k≠none→hpa.get k=h.get k:=fun k hk=>(hka k (by rw[hold k hk];exact hk) (hne k hk)).trans (hold k hk)
  have hw2:=(hold2 id hid).trans hw'
  refine kH (by omega) (sX L (K:=K) hw2 x (by rw[hf.kl];exact hxo)) ?_
  repeat' first|refine aI rfl nt_ ?_
  have hkx:=oq hf x
  refine cd (kw L hra (by omega) (bD K.l x) (by omega) (by omega)) ?_
  rintro v2 h2 ⟨hv2,hk2,hi2'⟩
  have hnt2:=hv2.notTup
  have hka2:∀ k,va.rowId=some k→h.get k=none:=fun k hk=>by
   rcases hria k hk with h|h
   ·exact hown k h
   ·apply Classical.byContradiction
    intro hne
    rw[hold k hne]at h
    exact hne h
  repeat' first|apply ad|(apply gw;first|(apply gq0;first|refine am rfl ?_|refine aq rv_ ?_)|refine aQ rfl rfl rfl (by omega) (by omega) ?_)|refine ae rfl ?_|apply aa|apply aF
  refine aP hi2 ⟨v2,?_,fun k hk=>(hk2 k (by rw[hold2 k hk];exact hk) fun e=>hk (hka2 k e)).trans (hold2 k hk),fun k hk=>?_,hh_⟩
  ·have e1:dM k++cn ((row.l.take (i+1)).map (bD K.l))=(dM k++cn ((row.l.take i).map (bD K.l)))++(32::dM (bD K.l x)):=by
    rw[List.take_add_one,hx,List.map_append,pp,List.append_assoc]
    simp[cn]
   rw[e1,fI,List.length_append]
   have e2:bl (32::dM (bD K.l x))=[AV.int .u8 32]++bl (dM (bD K.l x)):=rfl
   rw[e2,← List.append_assoc,List.length_cons,Nat.add_comm _ 1,← Nat.add_assoc]
   exact hv2
  ·rcases hi2' k hk with h|h
   ·exact hka2 k h
   ·apply Classical.byContradiction
    intro hne
    rw[hold2 k hne]at h
    exact hne h
 ·have hii:i=row.l.length:=by omega
  rw[List.take_of_length_le (by omega)]at hv
  have hns:v.isStr=false:=by rcases hv with⟨rfl,_⟩|⟨_,_,rfl,_⟩<;>rfl
  repeat' first|apply ad|(apply gw;first|refine aq rv_ ?_|(refine aA rfl rfl rfl ?_ ?_<;>(intro hc;try (exfalso;omega))))|(apply gx;first|apply af|refine ae rfl ?_|apply aL|refine ah rfl ?_)|apply aa|apply aM|apply aN|apply aR
  refine lJ rfl hns (gg hv) ?_
  repeat' first|apply ad|refine aq (v:=AV.str _) rfl ?_|apply aJ|apply aa
  refine aH rfl ⟨rfl,fun k o e=>?_⟩
  exact(hold k (by rw[e];simp)).trans e
end
end Go.Proofs.YtlnobeojgifojaaGreatDoor
