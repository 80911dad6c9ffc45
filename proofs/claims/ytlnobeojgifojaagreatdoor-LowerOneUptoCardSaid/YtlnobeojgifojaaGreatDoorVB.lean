/- slices.Reverse of spans. seqs.parts: spans cut till nothing is to be cut, one by one. seqs.Of: a set's rows of ranges of bytes. lower.name: ways as one text. -/
import Derived.Test.YtlnobeojgifojaaGreatDoorVA
set_option linter.unusedVariables false
set_option linter.unusedSimpArgs false
namespace Go.Proofs.YtlnobeojgifojaaGreatDoor
section
open Go
set_option maxHeartbeats 4000000
attribute [local irreducible] aj bc bj dn bz cn dz bL wop cq aU
theorem rL:∀ {l:List am} {i:Nat} {a:am},i<l.length→putCells (l.flatMap am.av) (i*2) a.av=(l.set i a).flatMap am.av
 | [],_,_,h=>by simp at h
 | s::l,0,a,_=>by
  simp[putCells,am.av]
 | s::l,i+1,a,h=>by
  have ih:=rL (l:=l) (i:=i) (a:=a) (by simpa using h)
  have e:(i+1)*2=(i*2)+2:=by omega
  unfold putCells at ih ⊢
  rw[List.set_cons_succ,List.flatMap_cons,List.flatMap_cons,← ih,e]
  simp[am.av]
theorem lF (l:List am):(l.flatMap am.av).length=l.length*2:=by
 induction l with
 | nil=>rfl
 | cons s l ih=>rw[List.flatMap_cons,List.length_append,ih,List.length_cons];simp[am.av];omega
theorem aa.set_same {h:aa}{i:Nat}{o:gB}(hg:h.get i=some o):h.set i o=h:=by
 have:(h.set i o).get=h.get:=by
  funext j
  rw[aa.get_set]
  split
  ·rename_i e;rw[e,hg]
  ·rfl
 generalize hx:h.set i o=x at this
 cases x;cases h;cases this;rfl
set_option maxRecDepth 100000 in
theorem yr {Φ:Lib}(L:em Φ){h:aa}{id g:Nat}(l:List am)(hg:h.get id=some (.cells g (l.flatMap am.av)))(hl:l.length≤4294967296) :
  aU Φ 291 [.own id g 2 0 l.length none] h (fun _ h'=>h'=h.set id (.cells g (l.reverse.flatMap am.av))):=by
 refine bb (fun _=>false) rfl L.f291 ?_
 repeat' first|apply ad|(apply gw;first|(apply gq0;first|refine aw rfl ?_|refine ai (v:=AV.own _ _ _ _ _ _) rfl ?_)|refine iq rfl rfl rfl HT HT ?_|refine dW rfl ?_)|(apply gx;first|apply af|refine ae rfl ?_|apply au)|apply ac
 refine ic (fun m env h'=>∃ (i:Nat) (M:List am),m=l.length-i∧2*i≤l.length+1∧M.length=l.length∧(∀ k,k<l.length→M[k]?=if k<i∨l.length-i≤k then l[l.length-1-k]? else l[k]?)∧h'=h.set id (.cells g (M.flatMap am.av))∧env.has [(0,.own id g 2 0 l.length none),(2,.int .i64 i),(3,.int .i64 ((l.length:Int)-1-i))]) _ ⟨0,l,rfl,by omega,rfl,fun k hk=>by rw[if_neg HT],?_,?_⟩ ?_
 ·exact(aa.set_same hg).symm
 ·rw[show((l.length:Int)-1-((0:Nat):Int))=(l.length:Int)-1 by omega]
  exact hh_
 rintro m env h' ⟨i,M,rfl,hi,hM,hk,rfl,he⟩
 obtain⟨env,rfl⟩:=he.ex
 clear he
 by_cases hi2:2*i+1<l.length
 ·obtain⟨a,ha⟩:=aK (l:=M) (i:=i) HT
  obtain⟨b,hb⟩:=aK (l:=M) (i:=l.length-1-i) HT
  have hgt:(h.set id (.cells g (M.flatMap am.av))).get id=some (.cells g (M.flatMap am.av)):=aa.get_set_self _ _ _
  repeat' first|apply ad|(apply gw;first|(apply gq0;first|refine aw rfl ?_|refine ai (v:=AV.own _ _ _ _ _ _) rfl ?_)|(apply gq2;first|refine iX (g:=_) rfl hg_ ha fl_ eq_ ?_|refine iX (g:=_) rfl hg_ hb fl_ eq_ ?_)|(refine aB rfl rfl rfl ?_ ?_<;>(intro hc;try omega))|refine bk rfl rfl HT HT ?_)|(apply gx;first|apply af|refine ae rfl ?_|apply ay|apply au|refine al rfl ?_)|apply ac
  have o1:(0+((i:Nat):Int).toNat)*2=i*2:=by omega
  have o2:(0+((l.length:Int)-1-(i:Int)).toNat)*2=(l.length-1-i)*2:=by omega
  refine aY (v := .agg b.av) (cs':=(M.set i b).flatMap am.av) rfl rfl hgt rfl rfl (by rw[lF];omega) (by rw[o1];exact rL HT) ?_
  rw[aa.set_set]
  have hgt2:(h.set id (.cells g ((M.set i b).flatMap am.av))).get id=some (.cells g ((M.set i b).flatMap am.av)):=aa.get_set_self _ _ _
  repeat' first|refine bk rfl rfl HT HT ?_
  refine aY (v := .agg a.av) (cs':=((M.set i b).set (l.length-1-i) a).flatMap am.av) rfl rfl hgt2 rfl rfl (by rw[lF,List.length_set];omega) (by rw[o2];exact rL (by rw[List.length_set];omega)) ?_
  rw[aa.set_set]
  repeat' first|apply ad|(apply gw;first|refine aw rfl ?_|(apply gq3;first|refine a8 rfl rfl rfl HT HT ?_|refine iq rfl rfl rfl HT HT ?_))|refine ae rfl ?_|apply ac|apply aJ
  refine fo (l.length-(i+1)) HT ⟨i+1,(M.set i b).set (l.length-1-i) a,rfl,by omega,by simp[hM],fun k hk2=>?_,rfl,?_⟩
  ·have h1:=hk i HT
   have h2:=hk (l.length-1-i) HT
   rw[if_neg HT]at h1
   rw[if_neg HT]at h2
   rw[List.getElem?_set,List.getElem?_set]
   by_cases e1:l.length-1-i=k
   ·rw[if_pos e1,if_pos (by rw[List.length_set];omega),if_pos HT,← e1,show l.length-1-(l.length-1-i)=i by omega,← h1,ha]
   ·rw[if_neg e1]
    by_cases e2:i=k
    ·rw[if_pos e2,if_pos HT,if_pos HT,← e2,← h2,hb]
    ·rw[if_neg e2,hk k hk2]
     by_cases e3:k<i∨l.length-i≤k
     ·rw[if_pos e3,if_pos HT]
     ·rw[if_neg e3,if_neg HT]
  ·rw[show((l.length:Int)-1-((i+1:Nat):Int))=(l.length:Int)-1-i-1 by omega]
   exact hh_
 ·repeat' first|apply ad|(apply gw;first|refine aw rfl ?_|(refine aB rfl rfl rfl ?_ ?_<;>(intro hc;try omega)))|(apply gx;first|apply af|refine ae rfl ?_|apply aP|refine ah rfl ?_)|apply ac|apply aQ|apply aR|apply ba
  have hrev:M=l.reverse:=by
   refine List.ext_getElem? fun k=>?_
   by_cases hk2:k<l.length
   ·rw[hk k hk2,List.getElem?_reverse hk2]
    by_cases e3:k<i∨l.length-i≤k
    ·rw[if_pos e3]
    ·rw[if_neg e3,show l.length-1-k=k by omega]
   ·rw[List.getElem?_eq_none HT,List.getElem?_eq_none (by simp;omega)]
  subst hrev
  exact lH rfl rfl
end
section
open Go
set_option maxHeartbeats 4000000
section
variable {F:bR} {r:List bA} {Q:Env→aa→Prop} {env:Env} {h:aa} {d:Nat} {x y z:bl}
theorem Aq {id g e n:Nat}{lim:Option Nat}{k k':IntKind}{j:Int}(hx:ev env x = .own id g e 0 n lim)(hy:ev env y = .int k j)(hz:ev env z = .int k' j)(h0:0≤j)(h1:j≤n)(k1:aj F r Q (env.put d (.own id g e 0 j.toNat (some j.toNat))) h):aj F (⟨some d,.slice e x none (some y) (some z),none⟩::r) Q env h:=by
 simp only[bE,pn,aF,hx,d4,hy,hz,Option.bind_some,bv]
 rw[if_pos ⟨by omega,h0,h1,trivial,trivial⟩]
 simpa using k1
theorem sR {id g e n m c:Nat}{cs new:List AV}{f:Bool}(hx:ev env x = .own id g e 0 n (some c))(hg:h.get id=some (.cells g cs))(hg1:1≤g)(hn:n*e≤cs.length)(hy:ev env y = .rd m new f)(hm:new.length=m*e)(hm0:m≠0)(hc:c<n+m)(hle:n+m≤4294967296)
  (k:∀ id',h.get id'=none→aj F r Q (env.put d (.own id' 1 e 0 (n+m) none)) (h.set id' (.cells 1 (cs.take (n*e)++new)))):aj F (⟨some d,.append e x y,none⟩::r) Q env h:=by
 have hmax:jv=4294967296:=rfl
 simp only[bE,jm,cL,hx,hy,bn,hm,if_true,Option.bind_some,bv]
 simp only[hg]
 rw[if_pos ⟨trivial,hg1,trivial,by omega,by rw[Nat.zero_add];exact hn⟩]
 simp only[hm0,if_false,hc,if_true,Nat.zero_mul,List.drop_zero]
 exact k
end
attribute [local irreducible] aj bc bj dn bz cn dz bL wop cq aU
theorem BZ {Φ:Lib}(L:em Φ)(l:List am)(fl:Bool):ia Φ 275 [.rd l.length (l.flatMap am.av) fl] (.fn 290 [.rp [.rd l.length (l.flatMap am.av) fl]]):=by
 refine bb (fun _=>false) rfl L.f275 ?_
 repeat' first|apply ad|(apply gw;first|(apply gq0;first|refine ai (v:=AV.fn _ _) rfl ?_|refine ai (v:=AV.nilf) rfl ?_)|(refine gJ (v:=AV.rd _ _ _) rfl rfl ?_;intro id hid;try simp only[aa.set_none]at hid)|refine oI (vs:=[AV.ptr _ _ _]) rfl rfl ?_)|(apply gx;first|apply af|refine ae rfl ?_|apply aM)|apply ac
 exact fA (fun _=>True) rfl (.fn (.cons (.ptr trivial (aa.get_set_self _ _ _) HU (FzL.same _)) .nil)) rfl
theorem wI {Φ:Lib}(L:em Φ):ia Φ 291 [.rd 0 [] true] (.tup []):=by
 refine bb (fun _=>false) rfl L.f291 ?_
 repeat' first|apply ad|(apply gw;first|(apply gq0;first|refine aw rfl ?_|refine bm rfl ?_)|refine iq rfl rfl rfl HT HT ?_|refine aD rfl ?_)|(apply gx;first|apply af|refine ae rfl ?_|apply au)|apply ac
 refine ic (fun m env h'=>env.has [(2,.int .i64 0),(3,.int .i64 (-1))]) 0 (hh_) ?_
 rintro m env h' he
 obtain⟨env,rfl⟩:=he.ex
 clear he
 repeat' first|apply ad|(apply gw;first|refine aw rfl ?_|(refine aB rfl rfl rfl ?_ ?_<;>(intro hc;try omega)))|(apply gx;first|apply af|refine ae rfl ?_|apply aP|refine ah rfl ?_)|apply ac|apply aQ|apply aR|apply ba
 exact lH rfl rfl
def zY (s:am):Prop:=∀ x,s.lo≤x→x≤s.hi→eI x=true
def muS (l:List am):Nat:=(l.map fun s=>2*(s.hi-s.lo).toNat+1).sum
theorem Ef {s:am}(h:OneSize s):1≤(gl s).length:=by
 obtain⟨q,hq,_⟩:=((j6 s h).2.1 s.lo).2 ⟨Int.le_refl _,h.le⟩
 exact List.length_pos_of_mem hq
theorem Eg {s:am}(h:OneSize s):(gl s).length≤7:=by
 have:=pN (gP (bq s.lo)) [] rfl s h rfl (fun q hq=>by cases hq)
 have hl:(gP (bq s.lo)).length≤3:=by
  unfold gP
  split<;>simp
 omega
theorem mU:∀ {l:List am},(∀ s∈l,OneSize s)→l.length≤(l.flatMap gl).length∧(l.flatMap gl).length≤7*l.length
 | [],_=>by simp
 | s::l,h=>by
  have ih:=mU (l:=l) fun q hq=>h q (by simp[hq])
  have h1:=Ef (h s HU)
  have h2:=Eg (h s HU)
  rw[List.flatMap_cons,List.length_append,List.length_cons]
  omega
set_option maxRecDepth 100000 in
theorem yz {Φ:Lib}(L:em Φ)(L3:cZ Φ)(l:List am)(fl:Bool)(hl:l.length≤4194304)(ho:∀ s∈l,OneSize s∧zY s):FK Φ 290 [.rp [.rd l.length (l.flatMap am.av) fl]] ((l.flatMap gl).map fun p=>[.agg p.av]):=by
 intro y J hst hth hr D h hJ
 have hnew:∀ {i:Nat} {D:Nat→Prop} {h:aa} {id:Nat} {o:gB},J i D h→h.get id=none→J i D (h.set id o):=fun hj hn=>hst _ _ _ _ hj fun k hk=>aa.get_set_ne _ _ (fun e=>hth _ _ _ hj k hk (e ▸ hn))
 have hcl:=Cu L3 (h:=h) (v := .rd l.length (l.flatMap am.av) fl) (n:=l.length) (cs:=l.flatMap am.av) (if_pos (lF l)) (lF l) rfl rfl HT
 have hrn:=wI L
 refine bb (fun _=>false) rfl L.f290 ?_
 repeat' first|(apply gw;first|refine aI rfl b_ pv_ ?_|refine aL rfl nt_ ?_)|(apply gx;first|apply af|refine ae rfl ?_)
 refine bS hcl ?_
 intro v h1 ⟨hrow,hk,hfr⟩
 have hJ1:J 0 D h1:=hst _ _ _ _ hJ fun k hd=>hk k (hth _ _ _ hJ k hd)
 rcases hrow with⟨rfl,hn0,hcs⟩|⟨id,g,rfl,hg,hg1,hcl1⟩
 ·have:l=[]:=List.eq_nil_of_length_eq_zero hn0
  subst this
  repeat' first|apply ad|(apply gw;first|refine bm rfl ?_|refine aL rfl nt_ ?_)|(apply gx;first|apply af|refine ae rfl ?_|apply au)|apply ac|refine bu (by assumption) fz_ fz_ ?_
  refine ic (fun m env h'=>J 0 D h'∧env.has [(3,.rd 0 [] true)]) 0 ⟨hJ1,hh_⟩ ?_
  rintro m env h' ⟨hJ2,he⟩
  obtain⟨env,rfl⟩:=he.ex
  clear he
  repeat' first|apply ad|(apply gw;first|refine bm rfl ?_|(refine dS rfl rfl rfl ?_ ?_<;>(intro hc;try omega))|refine aD rfl ?_)|(apply gx;first|apply af|refine ae rfl ?_|apply aP|refine ah rfl ?_)|apply ac|apply aQ|apply aR|apply ba
  exact lH rfl ⟨D,hJ2⟩
 have hidD:¬ D id:=fun hd=>hth _ _ _ hJ id hd (hfr id rfl)
 repeat' first|apply ad|(apply gw;first|refine ai (v:=AV.own _ _ _ _ _ _) rfl ?_|refine aL rfl nt_ ?_)|(apply gx;first|apply af|refine ae rfl ?_)|apply ac
 refine bS (yr L l hg HT) ?_
 rintro _ _ rfl
 have hJ2:J 0 D (h1.set id (.cells g (l.reverse.flatMap am.av))):=hst _ _ _ _ hJ1 fun k hd=>aa.get_set_ne _ _ (fun e=>hidD (e ▸ hd))
 have hos:∀ s∈l,OneSize s:=fun s hs=>(ho s hs).1
 repeat' first|apply ad|apply au|apply ac
 refine ic (fun m env h'=>∃ (rest junk:List am) (id g:Nat) (lim:Option Nat) (i:Nat) (D':Nat→Prop),m=muS rest∧(∀ s∈rest,OneSize s∧zY s)∧(l.flatMap gl).drop i=rest.flatMap gl∧i≤(l.flatMap gl).length∧J i D' h'∧¬ D' id∧1≤g∧h'.get id=some (.cells g ((rest.reverse++junk).flatMap am.av))∧env.has [(0,.yield y),(3,.own id g 2 0 rest.length lim)]) _ ⟨l,[],id,g,none,0,D,rfl,ho,rfl,Nat.zero_le _,hJ2,hidD,hg1,by rw[List.append_nil];exact aa.get_set_self _ _ _,hh_⟩ ?_
 clear hJ2 hidD hg hg1 hcl1 hfr hJ1 hk hrn hcl hJ
 rintro m env h' ⟨rest,junk,ik,g,lim,i,D',rfl,hor,hdr,hi,hJ,hikD,hg1,hg,he⟩
 obtain⟨env,rfl⟩:=he.ex
 clear he
 cases rest with
 | nil =>
  simp only[List.length_nil]
  repeat' first|apply ad|(apply gw;first|refine ai (v:=AV.own _ _ _ _ _ _) rfl ?_|(refine dS rfl rfl rfl ?_ ?_<;>(intro hc;try omega))|refine dW rfl ?_)|(apply gx;first|apply af|refine ae rfl ?_|apply aP|refine ah rfl ?_)|apply ac|apply aQ|apply aR|apply ba
  refine lH rfl ⟨D',?_⟩
  have hlen:=congrArg List.length hdr
  rw[List.length_drop]at hlen
  have:i=((l.flatMap gl).map fun p=>[AV.agg p.av]).length:=by
   rw[List.length_map]
   simp only[List.flatMap_nil,List.length_nil]at hlen
   omega
  rw[← this]
  exact hJ
 | cons s rest =>
  have htop:((s::rest).reverse++junk)[rest.length]?=some s:=by
   rw[List.reverse_cons,List.append_assoc,List.getElem?_append_right HU]
   simp
  have hos1:=hor s HU
  have hb:rest.length+1≤29360128:=by
   have q1:=(mU (l:=s::rest) fun q hq=>(hor q hq).1).1
   have q2:=(mU hos).2
   have q3:=congrArg List.length hdr
   rw[List.length_drop]at q3
   rw[List.length_cons]at q1
   omega
  have hall:((s::rest).reverse++junk).flatMap am.av=rest.reverse.flatMap am.av++(s::junk).flatMap am.av:=by
   rw[List.reverse_cons,List.append_assoc,List.flatMap_append]
   rfl
  have hlen0:(rest.reverse.flatMap am.av).length=rest.length*2:=by rw[lF,List.length_reverse]
  simp only[List.length_cons]
  have hkp:=BU L s hos1.1.lo hos1.1.le hos1.1.hi (hos1.2 _ (Int.le_refl _) hos1.1.le)
  have hpl:=nn hos1.1.lo hos1.1.le
  generalize hx:d3 s=x at hkp hpl
  have hlo:=hos1.1.lo
  have hle:=hos1.1.le
  have hhi:=hos1.1.hi
  repeat' first|apply ad|(apply gw;first|(apply gq0;first|refine aw rfl ?_|refine ai (v:=AV.own _ _ _ _ _ _) rfl ?_)|refine iX (g:=_) rfl hg_ htop fl_ eq_ ?_|(apply gq3;first|refine iq rfl rfl rfl HT HT ?_|(refine dS rfl rfl rfl ?_ ?_<;>(intro hc;try omega)))|refine bk rfl rfl HT HT ?_|refine dW rfl ?_|(refine cd ?_;intro id hid;try simp only[aa.set_none]at hid)|refine cy (cs':=[AV.int _ _,AV.int _ _]) rfl rfl rfl rfl b_ rfl ?_)|(apply gx;first|apply af|refine ae rfl ?_|apply ay|apply au|refine al rfl ?_)|apply ac
  refine Aq rfl rfl rfl HT HT ?_
  rw[show(((rest.length+1:Nat):Int)-1).toNat=rest.length by omega]
  have hne5:ik≠id:=fun e=>by rw[e,hid]at hg;cases hg
  have hJ5:J i D' (h'.set id (.cells 0 s.av)):=hnew hJ hid
  have hg5:(h'.set id (.cells 0 s.av)).get ik=some (.cells g (rest.reverse.flatMap am.av++(s::junk).flatMap am.av)):=by
   rw[aa.get_set_ne _ _ hne5,hg,hall]
  repeat' first|apply ad|(apply gw;first|(apply gq0;first|refine aw rfl ?_|refine ai (v:=AV.own _ _ _ _ _ _) rfl ?_|refine ai rv_ ?_)|refine ak rfl hg_ HU b_ pv_ ?_|(apply gq3;first|refine iq rfl rfl rfl HT HT ?_|(refine dS rfl rfl rfl ?_ ?_<;>(intro hc;try omega)))|refine aq rfl (Nat.zero_add _) ?_|refine aL rfl nt_ ?_|refine ri rfl rfl nt_ ?_|refine dE (cs:=[AV.int _ _,AV.int _ _]) rfl ?_|refine bF (cs:=[AV.int _ _,AV.int _ _,AV.int _ _,AV.int _ _]) rfl rfl ?_)|(apply gx;first|apply af|refine ae rfl ?_|apply ay|refine al rfl ?_|refine ah rfl ?_)|apply ac|refine bu (by assumption) fz_ fz_ ?_
  ·have hx0:=hpl.resolve_left HT
   refine sR (h:=h'.set id (.cells 0 s.av)) rfl hg5 hg1 (by rw[List.length_append,hlen0];omega) rfl rfl (by decide) HT HT ?_
   intro i2 hi2
   have hoc:=oW hos1.1 hx0.1 hx0.2
   rw[List.take_left' hlen0]
   repeat' first|apply ad|refine ai (v:=AV.own _ _ _ _ _ _) rfl ?_|apply aP|apply ac|apply aQ|apply aR
   refine fo (muS (⟨s.lo,x-1⟩::⟨x,s.hi⟩::rest)) (by simp only[muS,List.map_cons,List.sum_cons];omega) ⟨⟨s.lo,x-1⟩::⟨x,s.hi⟩::rest,[],i2,1,none,i,D',rfl,fun q hq=>?_,?_,hi,hnew hJ5 hi2,fun hd=>hth _ _ _ hJ5 i2 hd hi2,Nat.le_refl _,?_,hh_⟩
   ·rcases List.mem_cons.1 hq with rfl|hq
    ·exact⟨hoc.1,fun z z1 z2=>hos1.2 z z1 (by simp only at z2;omega)⟩
    ·rcases List.mem_cons.1 hq with rfl|hq
     ·exact⟨hoc.2,fun z z1 z2=>hos1.2 z (by simp only at z1;omega) z2⟩
     ·exact hor q (by simp[hq])
   ·rw[hdr,List.flatMap_cons,List.flatMap_cons,List.flatMap_cons,sq hx hx0.1 hx0.2,List.append_assoc]
   ·rw[aa.get_set_self,List.append_nil,List.reverse_cons,List.reverse_cons,List.append_assoc,List.flatMap_append]
    rfl
  ·have hx0:x=0:=by omega
   subst hx0
   rw[List.flatMap_cons,mV hx hlo]at hdr
   have hi2:(l.flatMap gl)[i]?=some s:=by
    have:=congrArg (fun t=>t[0]?) hdr
    simpa[List.getElem?_drop] using this
   refine bS (hr i [.agg s.av] (by rw[List.getElem?_map,hi2];rfl) D' _ hJ5) ?_
   rintro _ h2 ⟨rfl,hfr,D2,hJ3,hsub⟩
   have hg5:(h'.set id (.cells 0 [.int .i64 s.lo,.int .i64 s.hi])).get ik=some (.cells g (rest.reverse.flatMap am.av++(s::junk).flatMap am.av)):=hg5
   have hg6:h2.get ik=some (.cells g (rest.reverse.flatMap am.av++(s::junk).flatMap am.av)):=by
    rw[hfr ik hikD (by rw[hg5];simp),hg5]
   repeat' first|apply ad|refine dm (b:=true) rfl ?_|(apply gx;first|apply ay|refine ah rfl ?_)|apply ac|apply aJ
   refine fo (muS rest) (by simp only[muS,List.map_cons,List.sum_cons];omega) ⟨rest,s::junk,ik,g,some rest.length,i+1,D2,rfl,fun q hq=>hor q (by simp[hq]),?_,by have:=lt_of_getElem? hi2;omega,hJ3,fun hd=>?_,hg1,?_,hh_⟩
   ·rw[← List.drop_drop,hdr]
    rfl
   ·rcases hsub ik hd with e|e
    ·exact hikD e
    ·rw[hg5]at e;cases e
   ·rw[hg6,List.flatMap_append]
end
section
open Go
set_option maxHeartbeats 4000000
attribute [local irreducible] aj bc bj dn bz cn dz bL wop cq aU
@[reducible] def gQ (p:Int×Int):List AV:=[.int .u8 p.1,.int .u8 p.2]
@[reducible] def li (r:il):AV := .rd r.length (r.flatMap gQ) false
theorem wO:∀ {l:il} {i:Nat} {a:Int×Int},i<l.length→putCells (l.flatMap gQ) (i*2) (gQ a)=(l.set i a).flatMap gQ
 | [],_,_,h=>by simp at h
 | s::l,0,a,_=>by
  simp[putCells,gQ]
 | s::l,i+1,a,h=>by
  have ih:=wO (l:=l) (i:=i) (a:=a) (by simpa using h)
  have e:(i+1)*2=(i*2)+2:=by omega
  unfold putCells at ih ⊢
  rw[List.set_cons_succ,List.flatMap_cons,List.flatMap_cons,← ih,e]
  simp[gQ]
theorem wZ (l:il):(l.flatMap gQ).length=l.length*2:=by
 induction l with
 | nil=>rfl
 | cons s l ih=>rw[List.flatMap_cons,List.length_append,ih,List.length_cons];simp[gQ];omega
theorem EN {a b:List Int}{k:Nat}(ha:k<a.length)(hb:k<b.length):∃ x y,a[k]?=some x∧b[k]?=some y∧(a.zip b)[k]?=some (x,y) :=
 ⟨a[k],b[k],List.getElem?_eq_getElem ha,List.getElem?_eq_getElem hb,List.getElem?_zip_eq_some.2 ⟨List.getElem?_eq_getElem ha,List.getElem?_eq_getElem hb⟩⟩
theorem yW (l:List am):∀ q∈d5 l,zY q:=by
 intro q hq x h1 h2
 have:=((hZ l).2.1 x).1 ⟨q,hq,h1,h2⟩
 exact(gH.1 this).1
set_option maxRecDepth 100000 in
theorem AC {Φ:Lib}(L:em Φ)(L1:gC Φ)(L3:cZ Φ)(S:eG Φ)(l:List am)(hl:l.length≤1048576)(hnl:(aZ l).length≤1048576)(fl:Bool):ia Φ 267 [.rd l.length (l.flatMap am.av) fl] (.rd (cO l).length ((cO l).map li) false):=by
 have k1:=qF L1 S l hl fl
 have k2:=Cz L (aZ l) false hnl
 have k3:=BZ L ((aZ l).flatMap cJ) false
 have hone:∀ q∈(aZ l).flatMap cJ,OneSize q∧zY q:=fun q hq=>by
  obtain⟨s,hs,hq⟩:=List.mem_flatMap.1 hq
  refine⟨kp hq,fun x h1 h2=>?_⟩
  have hb:=mF hs
  have hx:=(tR hb.1 hb.2.1 x).1 ⟨q,hq,h1,h2⟩
  exact(gH.1 ⟨s,hs,hx⟩).1
 have hsl:=tQ (aZ l)
 have hI:=yz L L3 ((aZ l).flatMap cJ) false HT hone
 have hQ:((aZ l).flatMap cJ).flatMap gl=d5 l:=rfl
 rw[hQ]at hI
 have hfl:=(hZ l).1
 have hfs:=yW l
 have hql:(d5 l).length≤29360128:=by
  have:=(mU (l:=(aZ l).flatMap cJ) fun q hq=>(hone q hq).1).2
  rw[hQ]at this
  omega
 refine bb (fun _=>false) rfl L.f267 ?_
 repeat' first|apply ad|(apply gw;first|refine bm rfl ?_|refine aL rfl nt_ ?_|(refine cd ?_;intro id hid;try simp only[aa.set_none]at hid))|(apply gx;first|apply af|refine ae rfl ?_|apply au)|apply ac|refine bu (by assumption) fz_ fz_ ?_
 obtain⟨i3,rfl⟩:∃ x,x=id:=⟨_,rfl⟩
 refine tH ?_
 refine wm (xs:=(d5 l).map fun p=>[.agg p.av]) rfl hI (fun i D h'=>∃ vi,h'.get i3=some (.cells 0 [vi])∧aA h' vi 1 i (((d5 l).take i).map fun s=>li (dh s))∧(∀ k,D k↔(k=i3∨vi.rowId=some k))∧vi.rowId≠some i3) ?_ ?_
  (D:=fun k=>k=i3∨(AV.rd 0 [] true).rowId=some k) ⟨_,aa.get_set_self _ _ _,?_,fun _=>Iff.rfl,by simp[AV.rowId]⟩ HU ?_ ?_
 ·rintro i D h1 h2 ⟨vi,k1,k2,k3,k4⟩ hs
  exact⟨vi,(hs i3 ((k3 i3).2 (.inl rfl))).trans k1,k2.keep fun k hk=>hs k ((k3 k).2 (.inr hk)),k3,k4⟩
 ·rintro i D h1 ⟨vi,k1,k2,k3,k4⟩ k hk
  rcases (k3 k).1 hk with rfl|hk
  ·rw[k1];simp
  ·exact k2.there hk
 ·exact aA.nil _ _
 ·intro i x hx y D h1 ⟨vi,k1,k2,k3,k4⟩ hyD hy0
  simp only[List.getElem?_map,Option.map_eq_some_iff]at hx
  obtain⟨p,hp,rfl⟩:=hx
  have hpm:=List.mem_of_getElem? hp
  have hip:=(List.getElem?_eq_some_iff.1 hp).1
  refine EW (fun _=>false) ?_
  repeat' first|apply ad|(apply gw;first|(refine cd ?_;intro id hid;try simp only[aa.set_none]at hid)|refine cy (cs':=[AV.int _ _,AV.int _ _]) rfl rfl rfl rfl b_ rfl ?_)|refine ae rfl ?_
  obtain⟨i4,rfl⟩:∃ x,x=id:=⟨_,rfl⟩
  have hid_4:=hid
  have hD0:D i3:=(k3 i3).2 (.inl rfl)
  have hyid:y≠i3:=by rintro rfl;exact hyD hD0
  have hy1:y≠i4:=by rintro rfl;exact hy0 hid
  have h01:i3≠i4:=by rintro rfl;rw[k1]at hid;cases hid
  refine⟨rfl,aa.get_set_ne _ _ hy1,fun o=>?_⟩
  have fb_id:((h1.set i4 (.cells 0 [.int .i64 p.lo,.int .i64 p.hi])).set y o).get i4=some (.cells 0 p.av):=by
   rw[aa.get_set_ne _ _ hy1.symm];exact aa.get_set_self _ _ _
  have fb_i3:((h1.set i4 (.cells 0 [.int .i64 p.lo,.int .i64 p.hi])).set y o).get i3=some (.cells 0 [vi]):=by
   rw[aa.get_set_ne _ _ hyid.symm,aa.get_set_ne _ _ h01];exact k1
  have fb_y:((h1.set i4 (.cells 0 [.int .i64 p.lo,.int .i64 p.hi])).set y o).get y=some o:=aa.get_set_self _ _ _
  have fb:∀ k,k≠i4→k≠y→((h1.set i4 (.cells 0 [.int .i64 p.lo,.int .i64 p.hi])).set y o).get k=h1.get k:=fun k q1 q2=>by
   rw[aa.get_set_ne _ _ q2,aa.get_set_ne _ _ q1]
  have kd:∀ k,D k→k≠y∧k≠i4:=fun k hk=>⟨by rintro rfl;exact hyD hk,by rintro rfl;exact(by
   rcases (k3 _).1 hk with rfl|hk
   ·exact h01 rfl
   ·exact k2.there hk hid)⟩
  have hrow2:aA ((h1.set i4 (.cells 0 [.int .i64 p.lo,.int .i64 p.hi])).set y o) vi 1 i (((d5 l).take i).map fun s=>li (dh s)):=k2.keep fun k hk=>by
   obtain⟨e1,e2⟩:=kd k ((k3 k).2 (.inr hk))
   exact fb k e2 e1
  generalize (h1.set i4 (.cells 0 [.int .i64 p.lo,.int .i64 p.hi])).set y o=hb at fb_id fb_i3 fb_y fb hrow2
  have hF:=hfl p hpm
  have hSc:=hfs p hpm
  have ke1:=pM L p.lo
  have ke2:=pM L p.hi
  have e1:sl p.lo=iy (bG p.lo) false:=by unfold sl;rw[if_pos (hSc _ (Int.le_refl _) hF.le)]
  have e2:sl p.hi=iy (bG p.hi) false:=by unfold sl;rw[if_pos (hSc _ hF.le (Int.le_refl _))]
  rw[e1]at ke1
  rw[e2]at ke2
  have hla:=dI p.lo
  have hlb:=dI p.hi
  have hsz:=hF.size
  have hr4:=de p.lo
  have hrl:(dh p).length=(bG p.lo).length:=by unfold dh;rw[List.length_zip];omega
  obtain⟨A,hA⟩:∃ A,A=bG p.lo:=⟨_,rfl⟩
  obtain⟨B,hB⟩:∃ B,B=bG p.hi:=⟨_,rfl⟩
  rw[← hA]at ke1 hla hrl
  rw[← hB]at ke2 hlb
  refine EW (fun o=>o == some 41) ?_
  repeat' first|apply ad|(apply gw;first|(apply gq0;first|refine aw rfl ?_|refine bm rfl ?_|refine ai (v:=AV.own _ _ _ _ _ _) rfl ?_)|refine ak rfl hg_ HU b_ pv_ ?_|refine aq rfl (Nat.zero_add _) ?_|(apply gq6;first|refine aD rfl ?_|refine dW rfl ?_)|refine aL rfl nt_ ?_|(refine gb rfl rfl HT HT ?_;intro id hid;try simp only[aa.set_none]at hid))|(apply gx;first|apply af|refine ae rfl ?_|apply au)|apply ac|refine bu (by assumption) fz_ fz_ ?_
  obtain⟨i7,rfl⟩:∃ x,x=id:=⟨_,rfl⟩
  have h7:∀ k,hb.get k≠none→k≠i7:=fun k hk e=>hk (by rw[e,hid])
  refine cl A.length (fun k env h'=>∃ M:il,M.length=A.length∧M.take k=(dh p).take k∧h'=hb.set i7 (.cells 1 (M.flatMap gQ))∧env.has [(3,.ptr i3 0 0),(5,iy A false),(6,iy B false),(7,.own i7 1 2 0 A.length none),(24,.int .i64 A.length),(25,.int .i64 k)]) ⟨List.replicate A.length (0,0),by simp,by simp,?_,hh_⟩ ?_
  ·congr 1
   congr 1
   rw[Int.toNat_natCast]
   generalize A.length=n
   induction n with
   | zero=>rfl
   | succ n ih=>rw[List.replicate_succ,List.replicate_succ,List.flatten_cons,List.flatMap_cons,ih]
  rintro k env h' hk ⟨M,hM,hMk,rfl,he⟩
  obtain⟨env,rfl⟩:=he.ex
  clear he
  have hg7:(hb.set i7 (.cells 1 (M.flatMap gQ))).get i7=some (.cells 1 (M.flatMap gQ)):=aa.get_set_self _ _ _
  by_cases hk2:k<A.length
  ·obtain⟨a,b,ha,hb2,hz⟩:=EN (a:=A) (b:=B) (k:=k) hk2 HT
   have hz2:(dh p)[k]?=some (a,b):=by unfold dh;rw[← hA,← hB];exact hz
   repeat' first|apply ad|(apply gw;first|(apply gq0;first|refine aw rfl ?_|refine bm rfl ?_|refine ai (v:=AV.own _ _ _ _ _ _) rfl ?_)|refine aI rfl b_ pv_ ?_|(refine aB rfl rfl rfl ?_ ?_<;>(intro hc;try omega))|(apply gq5;first|refine ar rfl rfl ha HT rfl ?_|refine ar rfl rfl hb2 HT rfl ?_|refine bk rfl rfl HT HT ?_)|refine dE (cs:=[AV.int _ _,AV.int _ _]) rfl ?_)|(apply gx;first|apply af|refine ae rfl ?_|apply ay|apply au|refine al rfl ?_)|apply ac
   have o1:(0+((k:Nat):Int).toNat)*2=k*2:=by omega
   refine aY (v := .agg (gQ (a,b))) (cs':=(M.set k (a,b)).flatMap gQ) rfl rfl hg7 rfl rfl (by rw[wZ];omega) (by rw[o1];exact wO HT) ?_
   rw[aa.set_set]
   repeat' first|apply ad|(apply gw;first|refine aw rfl ?_|refine a8 rfl rfl rfl HT HT ?_)|refine ae rfl ?_|apply ac|apply aJ
   refine aW hk2 ⟨M.set k (a,b),by rw[List.length_set];exact hM,?_,rfl,hh_⟩
   have hs1:(M.set k (a,b))[k]?=some (a,b):=by rw[List.getElem?_set,if_pos rfl,if_pos HT]
   rw[aX hz2,aX hs1,List.take_set_of_le (Nat.le_refl _),hMk]
  ·have hMe:M=dh p:=by
    rw[List.take_of_length_le HT,List.take_of_length_le HT]at hMk
    exact hMk
   subst hMe
   repeat' first|apply ad|(refine aB rfl rfl rfl ?_ ?_<;>(intro hc;try omega))|(apply gx;first|apply af|refine ae rfl ?_|apply aP|refine ah rfl ?_)|apply ac|apply aQ|apply aR|apply ba
   have hr7:aA (hb.set i7 (.cells 1 ((dh p).flatMap gQ))) (.own i7 1 2 0 A.length none) 2 A.length ((dh p).flatMap gQ) := .inr ⟨i7,1,rfl,aa.get_set_self _ _ _,Nat.le_refl _,by rw[wZ,hM]⟩
   refine jn 7 (v := .own i7 1 2 0 A.length none) rfl rfl hr7 ?_
   intro h3 hk0
   have hk3:∀ k,k≠i7→h3.get k=hb.get k:=fun k hne=>by
    rw[hk0 k (fun e=>hne (Option.some.inj e).symm),aa.get_set_ne _ _ hne]
   have e7:AV.rd A.length ((dh p).flatMap gQ) false=li (dh p):=by unfold li;rw[hM]
   rw[e7]
   have f3:h3.get i3=some (.cells 0 [vi]):=by rw[hk3 _ (h7 _ (by rw[fb_i3];simp)),fb_i3]
   have hrow3:aA h3 vi 1 i (((d5 l).take i).map fun s=>li (dh s)):=hrow2.keep fun k hk=>hk3 k (h7 k (hrow2.there hk))
   refine ak (v:=vi) rfl f3 HU HU rfl ?_
   refine ai (v:=li (dh p)) rfl ?_
   refine bF (cs:=[li (dh p)]) rfl rfl ?_
   refine br (m:=1) rfl hrow3 rfl rfl HT ?_
   intro v' h4 hr hk4 hrid
   have hgi:h4.get i3=some (.cells 0 [vi]):=by rw[hk4 i3 (by rw[f3];simp) k4,f3]
   refine aY (cs':=[v']) rfl rfl hgi hr.isVal (by rw[show ev _ _=v' from rfl,hr.cells];rfl) HU (by rw[show ev _ _=v' from rfl,hr.cells];rfl) ?_
   repeat' first|apply ad|apply aJ
   have hv0:v'.rowId≠some i3:=fun e=>by
    rcases hrid i3 e with h2|h2
    ·exact k4 h2
    ·rw[f3]at h2;cases h2
   have h17:∀ k,h1.get k≠none→k≠y→k≠i7∧hb.get k=h1.get k:=fun k hn hy=>by
    have e4:k≠i4:=by rintro rfl;exact hn hid_4
    have e:=fb k e4 hy
    exact⟨h7 k (by rw[e];exact hn),e⟩
   refine⟨rfl,fun k hkD hkn hky=>?_,?_,fun k=>k=i3∨v'.rowId=some k,⟨v',aa.get_set_self _ _ _,?_,fun _=>Iff.rfl,hv0⟩,fun k hk'=>?_⟩
   ·have e0:k≠i3:=by rintro rfl;exact hkD hD0
    obtain⟨g1,g2⟩:=h17 k hkn hky
    rw[aa.get_set_ne _ _ e0,hk4 k (by rw[hk3 k g1,g2];exact hkn) (fun e=>hkD ((k3 k).2 (.inr e))),hk3 k g1,g2]
   ·have gy:y≠i7:=h7 y (by rw[fb_y];simp)
    rw[aa.get_set_ne _ _ hyid,hk4 y (by rw[hk3 y gy,fb_y];simp) (fun e=>hyD ((k3 y).2 (.inr e))),hk3 y gy,fb_y]
   ·have e:((d5 l).take (i+1)).map (fun s=>li (dh s))=((d5 l).take i).map (fun s=>li (dh s))++[li (dh p)]:=by
     rw[aX hp,List.map_append,List.map_singleton]
    rw[e]
    exact hr.keep fun k hk=>aa.get_set_ne _ _ (fun e=>hv0 (by rw[hk,e]))
   ·rcases hk' with rfl|hk'
    ·exact .inl hD0
    ·rcases hrid k hk' with h2|h2
     ·exact .inl ((k3 k).2 (.inr h2))
     ·right
      apply Classical.byContradiction
      intro hn
      by_cases hy:k=y
      ·subst hy
       have gy:k≠i7:=h7 k (by rw[fb_y];simp)
       rw[hk3 k gy,fb_y]at h2
       cases h2
      ·obtain⟨g1,g2⟩:=h17 k hn hy
       rw[hk3 k g1,g2]at h2
       exact hn h2
 ·rintro D h1 ⟨vi,k1,k2,k3,k4⟩
  simp only[List.length_map,List.take_length]at k2
  repeat' first|apply ad|(apply gw;first|refine ai rv_ ?_|refine ak rfl hg_ HU b_ pv_ ?_)|(apply gx;first|apply af|refine ae rfl ?_|apply aM)|apply ac|apply aJ
  refine iF rfl k2 (fun _=>?_)
  unfold cO
  rw[List.length_map,List.map_map]
  rfl
end
section
open Go
set_option maxHeartbeats 4000000
def b8 (x:Int):UInt8:=UInt8.ofNat x.toNat
theorem sC {x:Int}(h0:0≤x)(h1:x≤255):((b8 x).toNat:Int)=x:=by
 unfold b8
 have:(UInt8.ofNat x.toNat).toNat=x.toNat:=by
  rw[UInt8.toNat_ofNat']
  omega
 rw[this]
 omega
theorem EC {x y:Int}(h0:0≤x∧x≤255)(h1:0≤y∧y≤255)(h:b8 x=b8 y):x=y:=by
 have e1:=sC h0.1 h0.2
 have e2:=sC h1.1 h1.2
 rw[h]at e1
 omega
structure zn (w:Way):Prop where
 rng:∀ p∈w.1,(0≤p.1∧p.1≤255)∧(0≤p.2∧p.2≤255)
 len:w.1.length≤4
 to:0≤w.2∧w.2≤2147483647
def t5 (p:Int×Int):List UInt8:=[32,b8 p.1,b8 p.2]
def ly (r:il):List UInt8:=r.flatMap t5
def wl (w:Way):List UInt8:=cX w.2++(ly w.1++[46,b8 w.1.length])
def fU (l:List Way):List UInt8:=l.flatMap wl
theorem tT:∀ {r r':il} {k k':UInt8} {s s':List UInt8},(∀ p∈r,(0≤p.1∧p.1≤255)∧(0≤p.2∧p.2≤255))→(∀ p∈r',(0≤p.1∧p.1≤255)∧(0≤p.2∧p.2≤255))→ly r++(46::k::s)=ly r'++(46::k'::s')→r=r'∧s=s'
 | [],[],k,k',s,s',_,_,h=>by
  have h:(46:UInt8)::k::s=46::k'::s':=h
  injection h with _ h
  injection h with _ h
  exact⟨rfl,h⟩
 | [],p::r,k,k',s,s',_,_,h=>by
  have h:(46:UInt8)::k::s=32::([b8 p.1,b8 p.2]++ly r++(46::k'::s')):=h
  injection h with h _
  exact absurd h (by decide)
 | p::r,[],k,k',s,s',_,_,h=>by
  have h:(32:UInt8)::([b8 p.1,b8 p.2]++ly r++(46::k::s))=46::k'::s':=h
  injection h with h _
  exact absurd h (by decide)
 | p::r,q::r',k,k',s,s',h1,h2,h=>by
  have h:(32:UInt8)::b8 p.1::b8 p.2::(ly r++(46::k::s))=32::b8 q.1::b8 q.2::(ly r'++(46::k'::s')):=h
  injection h with _ h
  injection h with e1 h
  injection h with e2 h
  obtain⟨i1,i2⟩:=tT (fun x hx=>h1 x (by simp[hx])) (fun x hx=>h2 x (by simp[hx])) h
  have g1:=h1 p HU
  have g2:=h2 q HU
  exact⟨by rw[i1,Prod.ext (EC g1.1 g2.1 e1) (EC g1.2 g2.2 e2)],i2⟩
theorem tU (r:il)(k:UInt8)(s:List UInt8):∃ c t,ly r++(46::k::s)=c::t∧(c=32∨c=46):=by
 cases r with
 | nil=>exact⟨46,k::s,rfl,.inr rfl⟩
 | cons p r=>exact⟨32,_,rfl,.inl rfl⟩
theorem tN:∀ {a b:List UInt8} {c d:UInt8} {r s:List UInt8},(∀ x∈a,x≠32∧x≠46)→(∀ x∈b,x≠32∧x≠46)→(c=32∨c=46)→(d=32∨d=46)→a++c::r=b++d::s→a=b∧c::r=d::s
 | [],[],_,_,_,_,_,_,_,_,e=>⟨rfl,e⟩
 | [],x::b,c,d,_,_,_,hb,hc,_,e=>by
  injection e with e1 _
  have:=hb x HU
  rcases hc with rfl|rfl
  ·exact absurd e1.symm this.1
  ·exact absurd e1.symm this.2
 | x::a,[],c,d,_,_,ha,_,_,hd,e=>by
  injection e with e1 _
  have:=ha x HU
  rcases hd with rfl|rfl
  ·exact absurd e1 this.1
  ·exact absurd e1 this.2
 | x::a,y::b,c,d,r,s,ha,hb,hc,hd,e=>by
  injection e with e1 e2
  obtain⟨h1,h2⟩:=tN (fun z hz=>ha z (by simp[hz])) (fun z hz=>hb z (by simp[hz])) hc hd e2
  exact⟨by rw[e1,h1],h2⟩
theorem xw:∀ u,u<36→iJ u≠32∧iJ u≠46:=by decide
theorem Fk (u:Nat):∀ c∈gK u,c≠32∧c≠46:=by
 induction u using Nat.strongRecOn with
 | ind u ih =>
  by_cases h:u<36
  ·rw[iE h]
   intro c hc
   obtain rfl:=List.mem_singleton.1 hc
   exact xw u h
  ·rw[jc h]
   intro c hc
   rcases List.mem_append.1 hc with hc|hc
   ·exact ih (u / 36) HT c hc
   ·obtain rfl:=List.mem_singleton.1 hc
    exact xw _ (Nat.mod_lt _ HT)
theorem zN {x:Int}(h:0≤x):∀ c∈cX x,c≠32∧c≠46:=by
 unfold cX
 rw[if_neg HT]
 exact Fk _
theorem t8:∀ {l m:List Way},(∀ w∈l,zn w)→(∀ w∈m,zn w)→fU l=fU m→l=m
 | [],[],_,_,_=>rfl
 | [],w::m,_,_,e=>by
  have:=congrArg List.length e
  simp[fU,wl]at this
 | w::l,[],_,_,e=>by
  have:=congrArg List.length e
  simp[fU,wl]at this
 | w::l,v::m,h1,h2,e=>by
  have g1:=h1 w HU
  have g2:=h2 v HU
  have e':cX w.2++(ly w.1++(46::b8 w.1.length::fU l))=cX v.2++(ly v.1++(46::b8 v.1.length::fU m)):=by simpa[fU,wl] using e
  obtain⟨c,t,ec,hc⟩:=tU w.1 (b8 w.1.length) (fU l)
  obtain⟨d,u,ed,hd⟩:=tU v.1 (b8 v.1.length) (fU m)
  rw[ec,ed]at e'
  obtain⟨k1,k2⟩:=tN (zN g1.to.1) (zN g2.to.1) hc hd e'
  rw[← ec,← ed]at k2
  obtain⟨k3,k4⟩:=tT g1.rng g2.rng k2
  rw[t8 (fun x hx=>h1 x (by simp[hx])) (fun x hx=>h2 x (by simp[hx])) k4,Prod.ext k3 (mN k1)]
@[reducible] def mf (w:Way):List AV:=[li w.1,.int .i64 w.2]
theorem rA (r:il):(ly r).length=3*r.length:=by
 unfold ly
 induction r with
 | nil=>rfl
 | cons p r ih=>rw[List.flatMap_cons,List.length_append,ih,List.length_cons];simp[t5];omega
theorem CQ {w:Way}(h:zn w):(wl w).length≤23:=by
 have h9:=pH (x:=w.2) (by have:=h.to;omega) h.to.2
 have hr:=rA w.1
 have:=h.len
 simp only[wl,List.length_append,List.length_cons,List.length_nil,hr]
 omega
theorem t7:∀ {l:List Way},(∀ w∈l,zn w)→(fU l).length≤23*l.length
 | [],_=>by simp[fU]
 | w::l,h=>by
  have ih:=t7 (l:=l) fun x hx=>h x (by simp[hx])
  have h1:=CQ (h w HU)
  simp only[fU,List.flatMap_cons,List.length_append,List.length_cons]at ih ⊢
  omega
theorem yA {p:Int×Int}(h:(0≤p.1∧p.1≤255)∧(0≤p.2∧p.2≤255)):[AV.int .u8 32,.int .u8 p.1,.int .u8 p.2]=bd (t5 p):=by
 have e1:=sC h.1.1 h.1.2
 have e2:=sC h.2.1 h.2.2
 simp only[bd,t5,List.map_cons,List.map_nil,e1,e2]
 rfl
@[simp] theorem G3 (r:il):AV.frozenL (r.flatMap gQ)=true:=by
 induction r with
 | nil=>rfl
 | cons p r ih=>rw[List.flatMap_cons,mQ,ih];simp[AV.frozenL,AV.frozen]
@[simp] theorem Ho (l:List Way):AV.frozenL (l.flatMap mf)=true:=by
 induction l with
 | nil=>rfl
 | cons p r ih=>rw[List.flatMap_cons,mQ,ih];simp[AV.frozenL,AV.frozen]
attribute [local irreducible] aj bc bj dn bz cn dz bL wop cq aU
@[simp] theorem Hd (w:Way):(mf w).length=2:=rfl
@[simp] theorem GZ (p:Int×Int):(gQ p).length=2:=rfl
set_option maxRecDepth 100000 in
theorem Fm {Φ:Lib}(L:em Φ)(L3:cZ Φ)(l:List Way)(fl:Bool)(hl:l.length≤4194304)(hw:∀ w∈l,zn w):ia Φ 297 [.rd l.length (l.flatMap mf) fl] (.str (fU l)):=by
 refine bb (fun _=>false) rfl L.f297 ?_
 repeat' first|apply ad|(apply gw;first|(apply gq0;first|refine aw rfl ?_|refine bm rfl ?_|refine ai (v:=AV.str _) rfl ?_)|refine aD rfl ?_)|(apply gx;first|apply af|refine ae rfl ?_|apply au)|apply ac
 refine cl l.length (fun i env h'=>∃ v,Sep h' [jA aa.empty,cP v 1 (fU (l.take i)).length (bd (fU (l.take i)))]∧env.has [(3,v),(8,.rd l.length (l.flatMap mf) fl),(9,.int .i64 l.length),(10,.int .i64 i)]) ⟨_,(Sep.old aa.empty).nil 1,hh_⟩ ?_
 rintro i env h' hi ⟨v,hS,he⟩
 obtain⟨env,rfl⟩:=he.ex
 clear he
 have hv:aA h' v 1 _ _:=hS.get (i:=1) rfl
 have hnt:=hv.notTup
 have hlen:=t7 (l:=l.take i) fun w hw2=>hw w (List.mem_of_mem_take hw2)
 rw[List.length_take]at hlen
 by_cases hi2:i<l.length
 ·obtain⟨w,hx⟩:=aK hi2
  have hwb:=hw w (List.mem_of_getElem? hx)
  have hwt:=hwb.to
  have h9:=pH (x:=w.2) HT hwt.2
  repeat' first|apply ad|(apply gw;first|refine ai rv_ ?_|(apply gq2;first|refine iH rfl (by first|rfl|(simp[*];done)|fail) ?_|refine ak rfl hg_ HU b_ pv_ ?_)|(refine aB rfl rfl rfl ?_ ?_<;>(intro hc;try omega))|refine aq rfl (Nat.zero_add _) ?_|refine fR rfl fl_ rfl hx HT rfl ?_|refine aL rfl nt_ ?_|(refine cd ?_;intro id hid;try simp only[aa.set_none]at hid)|refine aY (v:=AV.agg _) rfl rfl hg_ rfl rfl b_ sv_ ?_)|(apply gx;first|apply af|refine ae rfl ?_|apply ay|apply au|refine al rfl ?_)|apply ac
  rw[aa.set_set]
  obtain⟨i5,rfl⟩:∃ x,x=id:=⟨_,rfl⟩
  have hS1:=hS.new (o := .cells 0 (mf w)) hid
  have hv1:aA _ v 1 _ _:=hS1.get (i:=1) rfl
  refine bS (jo L3 hv1 HT w.2 HT HT) ?_
  rintro v2 h2 ⟨hv2,hk2,hi2'⟩
  have hS2:=hS1.upd 1 (cP v2 1 _ _) rfl hv2 hk2 hi2'
  rw[← eJ,← List.length_append]at hS2
  have hnt2:=hv2.notTup
  have h5:h2.get i5=some (.cells 0 (mf w)):=hS2.get (i:=2) rfl
  clear hS1 hv1 hv2 hk2 hi2' hS hid hv hnt
  have hsn:fU (l.take (i+1))=fU (l.take i)++wl w:=by
   rw[aX hx]
   simp[fU]
  have hrl:=rA w.1
  have hwl:=hwb.len
  repeat' first|apply ad|(apply gw;first|(apply gq0;first|refine aw rfl ?_|refine ai rv_ ?_)|refine ak rfl hg_ HU b_ pv_ ?_|refine aq rfl (Nat.zero_add _) ?_|refine aD rfl ?_)|(apply gx;first|apply af|refine ae rfl ?_|apply au)|apply ac
  refine cl w.1.length (fun j env h'=>∃ v,Sep h' [jA aa.empty,cP v 1 (fU (l.take i)++cX w.2++ly (w.1.take j)).length (bd (fU (l.take i)++cX w.2++ly (w.1.take j))),ck i5 (.cells 0 (mf w))]∧env.has [(3,v),(5,.ptr i5 0 0),(8,.rd l.length (l.flatMap mf) fl),(9,.int .i64 l.length),(10,.int .i64 i),(19,li w.1),(20,.int .i64 w.1.length),(21,.int .i64 j)]) ⟨v2,by rw[List.take_zero,show ly []=[] from rfl,List.append_nil];exact hS2,hh_⟩ ?_
  clear hS2 h5 hnt2
  rintro j env h' hj ⟨v,hS,he⟩
  obtain⟨env,rfl⟩:=he.ex
  clear he
  have hv:aA h' v 1 _ _:=hS.get (i:=1) rfl
  have hnt:=hv.notTup
  have h5:h'.get i5=some (.cells 0 (mf w)):=hS.get (i:=2) rfl
  have hTl:(fU (l.take i)++cX w.2++ly (w.1.take j)).length≤96469100:=by
   rw[List.length_append,List.length_append,rA,List.length_take]
   omega
  by_cases hj2:j<w.1.length
  ·obtain⟨p,hp⟩:=aK hj2
   have hpr:=hwb.rng p (List.mem_of_getElem? hp)
   have hsn2:ly (w.1.take (j+1))=ly (w.1.take j)++t5 p:=by
    rw[aX hp]
    simp[ly]
   repeat' first|apply ad|(apply gw;first|(apply gq0;first|refine aw rfl ?_|refine ai rv_ ?_)|(apply gq2;first|refine iH rfl (by first|rfl|(simp[*];done)|fail) ?_|refine ak rfl hg_ HU b_ pv_ ?_)|(apply gq3;first|refine a8 rfl rfl rfl HT HT ?_|(refine aB rfl rfl rfl ?_ ?_<;>(intro hc;try omega)))|refine aq rfl (Nat.zero_add _) ?_|refine fR rfl fl_ rfl hp HT rfl ?_|(refine cd ?_;intro id hid;try simp only[aa.set_none]at hid)|refine cy (cs':=[AV.int _ _,AV.int _ _]) rfl rfl rfl rfl b_ rfl ?_|(refine br rv_ ir_ rfl HU (by first|omega|(simp;omega)) ?_;intro va hpa hra hka hria)|refine bF rfl rfl ?_)|(apply gx;first|apply af|refine ae rfl ?_|apply ay|apply au|refine al rfl ?_)|apply ac|apply aJ
   have hS1:=hS.new (o := .cells 0 [.int .u8 p.1,.int .u8 p.2]) hid
   have hS2:=hS1.upd 1 (cP va 1 _ _) rfl hra hka hria
   have hS3:=hS2.drop 3 (h':=hpa) rfl (fun _ _=>rfl)
   refine aW hj2 ⟨va,?_,hh_⟩
   rw[hsn2,← List.append_assoc,eJ,List.length_append (bs:=t5 p),← yA hpr]
   exact hS3
  ·repeat' first|apply ad|(apply gw;first|(apply gq0;first|refine aw rfl ?_|refine ai rv_ ?_)|refine ak rfl hg_ HU b_ pv_ ?_|(apply gq3;first|refine a8 rfl rfl rfl HT HT ?_|(refine aB rfl rfl rfl ?_ ?_<;>(intro hc;try omega)))|refine aq rfl (Nat.zero_add _) ?_|refine aD rfl ?_|(refine br rv_ ir_ rfl HU (by first|omega|(simp;omega)) ?_;intro va hpa hra hka hria)|refine bF (cs:=[AV.int _ _,AV.int _ _]) rfl rfl ?_|refine jJ rfl HT ?_)|(apply gx;first|apply af|refine ae rfl ?_|apply aP|refine ah rfl ?_)|apply ac|apply aQ|apply aJ|apply aR|apply ba
   have hS2:=hS.upd 1 (cP va 1 _ _) rfl hra hka hria
   have hS3:=hS2.drop 2 (h':=hpa) rfl (fun _ _=>rfl)
   refine aW hi2 ⟨va,?_,hh_⟩
   have e46:[AV.int .u8 46,.int .u8 ((w.1.length:Int)%256)]=bd [46,b8 w.1.length]:=by
    have hL:((w.1.length:Nat):Int)≤255:=by have:=hwb.len;omega
    have e1:=sC (x:=((w.1.length:Nat):Int)) (Int.natCast_nonneg _) hL
    simp only[bd,List.map_cons,List.map_nil,e1]
    rw[show((w.1.length:Nat):Int)%256=((w.1.length:Nat):Int) from Int.emod_eq_of_lt (Int.natCast_nonneg _) HT]
    rfl
   have e47:fU (l.take (i+1))=fU (l.take i)++cX w.2++ly (w.1.take j)++[46,b8 w.1.length]:=by
    rw[hsn,List.take_of_length_le (l:=w.1) (i:=j) HT]
    simp[wl]
   rw[e47,eJ,List.length_append (bs:=[46,_]),← e46]
   exact hS3
 ·rw[List.take_of_length_le HT]at hv
  have hns:v.isStr=false:=by rcases hv with⟨rfl,_⟩|⟨_,_,rfl,_⟩<;>rfl
  repeat' first|apply ad|(apply gw;first|refine ai rv_ ?_|(refine aB rfl rfl rfl ?_ ?_<;>(intro hc;try omega)))|(apply gx;first|apply af|refine ae rfl ?_|apply aP|refine ah rfl ?_)|apply ac|apply aQ|apply aR|apply ba
  refine kh rfl hns (fk hv) ?_
  repeat' first|apply ad|refine ai (v:=AV.str _) rfl ?_|apply aM|apply ac
  exact aH rfl rfl
end
end Go.Proofs.YtlnobeojgifojaaGreatDoor
