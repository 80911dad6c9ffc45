/- slices.Reverse of spans. -/
import Derived.Test.YtlnobeojgifojaaGreatDoorVA
set_option linter.unusedVariables false
set_option linter.unusedSimpArgs false
namespace Go.Proofs.YtlnobeojgifojaaGreatDoor
section
open Go
set_option maxHeartbeats 4000000
attribute [local irreducible] az bf bm de bz cw dH bJ wop cz bc
theorem ua:∀ {l:List aj} {i:Nat} {a:aj},i<l.length→putCells (l.flatMap aj.av) (i*2) a.av=(l.set i a).flatMap aj.av
 | [],_,_,h=>by simp at h
 | s::l,0,a,_=>by
  simp[putCells,aj.av]
 | s::l,i+1,a,h=>by
  have ih:=ua (l:=l) (i:=i) (a:=a) (by simpa using h)
  have e:(i+1)*2=(i*2)+2:=by omega
  unfold putCells at ih ⊢
  rw[List.set_cons_succ,List.flatMap_cons,List.flatMap_cons,← ih,e]
  simp[aj.av]
theorem nf (l:List aj):(l.flatMap aj.av).length=l.length*2:=by
 induction l with
 | nil=>rfl
 | cons s l ih=>rw[List.flatMap_cons,List.length_append,ih,List.length_cons];simp[aj.av];omega
theorem ad.set_same {h:ad}{i:Nat}{o:iQ}(hg:h.get i=some o):h.set i o=h:=by
 have:(h.set i o).get=h.get:=by
  funext j
  rw[ad.get_set]
  split
  ·rename_i e;rw[e,hg]
  ·rfl
 generalize hx:h.set i o=x at this
 cases x;cases h;cases this;rfl
set_option maxRecDepth 100000 in
theorem A6 {Φ:Lib}(L:fh Φ){h:ad}{id g:Nat}(l:List aj)(hg:h.get id=some (.cells g (l.flatMap aj.av)))(hl:l.length≤4294967296) :
  bc Φ 291 [.own id g 2 0 l.length none] h (fun _ h'=>h'=h.set id (.cells g (l.reverse.flatMap aj.av))):=by
 refine ba (fun _=>false) rfl L.f291 ?_
 repeat' first|apply ac|(apply gw;first|(apply gq0;first|refine aq rfl ?_|refine au (v:=AV.own _ _ _ _ _ _) rfl ?_)|refine jj rfl rfl rfl Ll Ll ?_|refine eS rfl ?_)|(apply gx;first|apply af|refine ae rfl ?_|apply al)|apply aa
 refine gL (fun m env h'=>∃ (i:Nat) (M:List aj),m=l.length-i∧2*i≤l.length+1∧M.length=l.length∧(∀ k,k<l.length→M[k]?=if k<i∨l.length-i≤k then l[l.length-1-k]? else l[k]?)∧h'=h.set id (.cells g (M.flatMap aj.av))∧env.has [(0,.own id g 2 0 l.length none),(2,.int .i64 i),(3,.int .i64 ((l.length:Int)-1-i))]) _ ⟨0,l,rfl,by omega,rfl,fun k hk=>by rw[if_neg Ll],?_,?_⟩ ?_
 ·exact(ad.set_same hg).symm
 ·rw[show((l.length:Int)-1-((0:Nat):Int))=(l.length:Int)-1 by omega]
  exact hh_
 rintro m env h' ⟨i,M,rfl,hi,hM,hk,rfl,he⟩
 obtain⟨env,rfl⟩:=he.ex
 clear he
 by_cases hi2:2*i+1<l.length
 ·obtain⟨a,ha⟩:=aK (l:=M) (i:=i) Ll
  obtain⟨b,hb⟩:=aK (l:=M) (i:=l.length-1-i) Ll
  have hgt:(h.set id (.cells g (M.flatMap aj.av))).get id=some (.cells g (M.flatMap aj.av)):=ad.get_set_self _ _ _
  repeat' first|apply ac|(apply gw;first|(apply gq0;first|refine aq rfl ?_|refine au (v:=AV.own _ _ _ _ _ _) rfl ?_)|(apply gq2;first|refine j6 (g:=_) rfl hg_ ha fl_ eq_ ?_|refine j6 (g:=_) rfl hg_ hb fl_ eq_ ?_)|(refine aA rfl rfl rfl ?_ ?_<;>(intro hc;try omega))|refine bv rfl rfl Ll Ll ?_)|(apply gx;first|apply af|refine ae rfl ?_|apply ay|apply al|refine ak rfl ?_)|apply aa
  have o1:(0+((i:Nat):Int).toNat)*2=i*2:=by omega
  have o2:(0+((l.length:Int)-1-(i:Int)).toNat)*2=(l.length-1-i)*2:=by omega
  refine bh (v := .agg b.av) (cs':=(M.set i b).flatMap aj.av) rfl rfl hgt rfl rfl (by rw[nf];omega) (by rw[o1];exact ua Ll) ?_
  rw[ad.set_set]
  have hgt2:(h.set id (.cells g ((M.set i b).flatMap aj.av))).get id=some (.cells g ((M.set i b).flatMap aj.av)):=ad.get_set_self _ _ _
  repeat' first|refine bv rfl rfl Ll Ll ?_
  refine bh (v := .agg a.av) (cs':=((M.set i b).set (l.length-1-i) a).flatMap aj.av) rfl rfl hgt2 rfl rfl (by rw[nf,List.length_set];omega) (by rw[o2];exact ua (by rw[List.length_set];omega)) ?_
  rw[ad.set_set]
  repeat' first|apply ac|(apply gw;first|refine aq rfl ?_|(apply gq3;first|refine aT rfl rfl rfl Ll Ll ?_|refine jj rfl rfl rfl Ll Ll ?_))|refine ae rfl ?_|apply aa|apply aI
  refine fp (l.length-(i+1)) Ll ⟨i+1,(M.set i b).set (l.length-1-i) a,rfl,by omega,by simp[hM],fun k hk2=>?_,rfl,?_⟩
  ·have h1:=hk i Ll
   have h2:=hk (l.length-1-i) Ll
   rw[if_neg Ll]at h1
   rw[if_neg Ll]at h2
   rw[List.getElem?_set,List.getElem?_set]
   by_cases e1:l.length-1-i=k
   ·rw[if_pos e1,if_pos (by rw[List.length_set];omega),if_pos Ll,← e1,show l.length-1-(l.length-1-i)=i by omega,← h1,ha]
   ·rw[if_neg e1]
    by_cases e2:i=k
    ·rw[if_pos e2,if_pos Ll,if_pos Ll,← e2,← h2,hb]
    ·rw[if_neg e2,hk k hk2]
     by_cases e3:k<i∨l.length-i≤k
     ·rw[if_pos e3,if_pos Ll]
     ·rw[if_neg e3,if_neg Ll]
  ·rw[show((l.length:Int)-1-((i+1:Nat):Int))=(l.length:Int)-1-i-1 by omega]
   exact hh_
 ·repeat' first|apply ac|(apply gw;first|refine aq rfl ?_|(refine aA rfl rfl rfl ?_ ?_<;>(intro hc;try omega)))|(apply gx;first|apply af|refine ae rfl ?_|apply aN|refine ai rfl ?_)|apply aa|apply aO|apply aP|apply aX
  have hrev:M=l.reverse:=by
   refine List.ext_getElem? fun k=>?_
   by_cases hk2:k<l.length
   ·rw[hk k hk2,List.getElem?_reverse hk2]
    by_cases e3:k<i∨l.length-i≤k
    ·rw[if_pos e3]
    ·rw[if_neg e3,show l.length-1-k=k by omega]
   ·rw[List.getElem?_eq_none Ll,List.getElem?_eq_none (by simp;omega)]
  subst hrev
  exact nh rfl rfl
end
section
open Go
set_option maxHeartbeats 4000000
section
variable {F:bZ} {r:List bK} {Q:Env→ad→Prop} {env:Env} {h:ad} {d:Nat} {x y z:bA}
theorem Dg {id g e n:Nat}{lim:Option Nat}{k k':IntKind}{j:Int}(hx:ev env x = .own id g e 0 n lim)(hy:ev env y = .int k j)(hz:ev env z = .int k' j)(h0:0≤j)(h1:j≤n)(k1:az F r Q (env.put d (.own id g e 0 j.toNat (some j.toNat))) h):az F (⟨some d,.slice e x none (some y) (some z),none⟩::r) Q env h:=by
 simp only[bO,oT,a8,hx,eY,hy,hz,Option.bind_some,bH]
 rw[if_pos ⟨by omega,h0,h1,trivial,trivial⟩]
 simpa using k1
theorem vj {id g e n m c:Nat}{cs new:List AV}{f:Bool}(hx:ev env x = .own id g e 0 n (some c))(hg:h.get id=some (.cells g cs))(hg1:1≤g)(hn:n*e≤cs.length)(hy:ev env y = .rd m new f)(hm:new.length=m*e)(hm0:m≠0)(hc:c<n+m)(hle:n+m≤4294967296)
  (k:∀ id',h.get id'=none→az F r Q (env.put d (.own id' 1 e 0 (n+m) none)) (h.set id' (.cells 1 (cs.take (n*e)++new)))):az F (⟨some d,.append e x y,none⟩::r) Q env h:=by
 have hmax:kH=4294967296:=rfl
 simp only[bO,kB,dr,hx,hy,bB,hm,if_true,Option.bind_some,bH]
 simp only[hg]
 rw[if_pos ⟨trivial,hg1,trivial,by omega,by rw[Nat.zero_add];exact hn⟩]
 simp only[hm0,if_false,hc,if_true,Nat.zero_mul,List.drop_zero]
 exact k
end
attribute [local irreducible] az bf bm de bz cw dH bJ wop cz bc
theorem E2 {Φ:Lib}(L:fh Φ)(l:List aj)(fl:Bool):eQ Φ 275 [.rd l.length (l.flatMap aj.av) fl] (.fn 290 [.rp [.rd l.length (l.flatMap aj.av) fl]]):=by
 refine ba (fun _=>false) rfl L.f275 ?_
 repeat' first|apply ac|(apply gw;first|(apply gq0;first|refine au (v:=AV.fn _ _) rfl ?_|refine au (v:=AV.nilf) rfl ?_)|(refine gQ (v:=AV.rd _ _ _) rfl rfl ?_;intro id hid;try simp only[ad.set_none]at hid)|refine qC (vs:=[AV.ptr _ _ _]) rfl rfl ?_)|(apply gx;first|apply af|refine ae rfl ?_|apply aM)|apply aa
 exact fP (fun _=>True) rfl (.fn (.cons (.ptr trivial (ad.get_set_self _ _ _) Lm (FzL.same _)) .nil)) rfl
theorem zl {Φ:Lib}(L:fh Φ):eQ Φ 291 [.rd 0 [] true] (.tup []):=by
 refine ba (fun _=>false) rfl L.f291 ?_
 repeat' first|apply ac|(apply gw;first|(apply gq0;first|refine aq rfl ?_|refine aG rfl ?_)|refine jj rfl rfl rfl Ll Ll ?_|refine aw rfl ?_)|(apply gx;first|apply af|refine ae rfl ?_|apply al)|apply aa
 refine gL (fun m env h'=>env.has [(2,.int .i64 0),(3,.int .i64 (-1))]) 0 (hh_) ?_
 rintro m env h' he
 obtain⟨env,rfl⟩:=he.ex
 clear he
 repeat' first|apply ac|(apply gw;first|refine aq rfl ?_|(refine aA rfl rfl rfl ?_ ?_<;>(intro hc;try omega)))|(apply gx;first|apply af|refine ae rfl ?_|apply aN|refine ai rfl ?_)|apply aa|apply aO|apply aP|apply aX
 exact nh rfl rfl
def CL (s:aj):Prop:=∀ x,s.lo≤x→x≤s.hi→cv x=true
def muS (l:List aj):Nat:=(l.map fun s=>2*(s.hi-s.lo).toNat+1).sum
theorem Hx {s:aj}(h:OneSize s):1≤(iG s).length:=by
 obtain⟨q,hq,_⟩:=((lI s h).2.1 s.lo).2 ⟨Int.le_refl _,h.le⟩
 exact List.length_pos_of_mem hq
theorem Hy {s:aj}(h:OneSize s):(iG s).length≤7:=by
 have:=rW (jd (bF s.lo)) [] rfl s h rfl (fun q hq=>by cases hq)
 have hl:(jd (bF s.lo)).length≤3:=by
  unfold jd
  split<;>simp
 omega
theorem oJ:∀ {l:List aj},(∀ s∈l,OneSize s)→l.length≤(l.flatMap iG).length∧(l.flatMap iG).length≤7*l.length
 | [],_=>by simp
 | s::l,h=>by
  have ih:=oJ (l:=l) fun q hq=>h q (by simp[hq])
  have h1:=Hx (h s Lm)
  have h2:=Hy (h s Lm)
  rw[List.flatMap_cons,List.length_append,List.length_cons]
  omega
set_option maxRecDepth 100000 in
theorem Ba {Φ:Lib}(L:fh Φ)(L3:cJ Φ)(l:List aj)(fl:Bool)(hl:l.length≤4194304)(ho:∀ s∈l,OneSize s∧CL s):Ja Φ 290 [.rp [.rd l.length (l.flatMap aj.av) fl]] ((l.flatMap iG).map fun p=>[.agg p.av]):=by
 intro y J hst hth hr D h hJ
 have hnew:∀ {i:Nat} {D:Nat→Prop} {h:ad} {id:Nat} {o:iQ},J i D h→h.get id=none→J i D (h.set id o):=fun hj hn=>hst _ _ _ _ hj fun k hk=>ad.get_set_ne _ _ (fun e=>hth _ _ _ hj k hk (e ▸ hn))
 have hcl:=FA L3 (h:=h) (v := .rd l.length (l.flatMap aj.av) fl) (n:=l.length) (cs:=l.flatMap aj.av) (if_pos (nf l)) (nf l) rfl rfl Ll
 have hrn:=zl L
 refine ba (fun _=>false) rfl L.f290 ?_
 repeat' first|(apply gw;first|refine aB rfl b_ pv_ ?_|refine aH rfl nt_ ?_)|(apply gx;first|apply af|refine ae rfl ?_)
 refine ci hcl ?_
 intro v h1 ⟨hrow,hk,hfr⟩
 have hJ1:J 0 D h1:=hst _ _ _ _ hJ fun k hd=>hk k (hth _ _ _ hJ k hd)
 rcases hrow with⟨rfl,hn0,hcs⟩|⟨id,g,rfl,hg,hg1,hcl1⟩
 ·have:l=[]:=List.eq_nil_of_length_eq_zero hn0
  subst this
  repeat' first|apply ac|(apply gw;first|refine aG rfl ?_|refine aH rfl nt_ ?_)|(apply gx;first|apply af|refine ae rfl ?_|apply al)|apply aa|refine aW (by assumption) fz_ fz_ ?_
  refine gL (fun m env h'=>J 0 D h'∧env.has [(3,.rd 0 [] true)]) 0 ⟨hJ1,hh_⟩ ?_
  rintro m env h' ⟨hJ2,he⟩
  obtain⟨env,rfl⟩:=he.ex
  clear he
  repeat' first|apply ac|(apply gw;first|refine aG rfl ?_|(refine cN rfl rfl rfl ?_ ?_<;>(intro hc;try omega))|refine aw rfl ?_)|(apply gx;first|apply af|refine ae rfl ?_|apply aN|refine ai rfl ?_)|apply aa|apply aO|apply aP|apply aX
  exact nh rfl ⟨D,hJ2⟩
 have hidD:¬ D id:=fun hd=>hth _ _ _ hJ id hd (hfr id rfl)
 repeat' first|apply ac|(apply gw;first|refine au (v:=AV.own _ _ _ _ _ _) rfl ?_|refine aH rfl nt_ ?_)|(apply gx;first|apply af|refine ae rfl ?_)|apply aa
 refine ci (A6 L l hg Ll) ?_
 rintro _ _ rfl
 have hJ2:J 0 D (h1.set id (.cells g (l.reverse.flatMap aj.av))):=hst _ _ _ _ hJ1 fun k hd=>ad.get_set_ne _ _ (fun e=>hidD (e ▸ hd))
 have hos:∀ s∈l,OneSize s:=fun s hs=>(ho s hs).1
 repeat' first|apply ac|apply al|apply aa
 refine gL (fun m env h'=>∃ (rest junk:List aj) (id g:Nat) (lim:Option Nat) (i:Nat) (D':Nat→Prop),m=muS rest∧(∀ s∈rest,OneSize s∧CL s)∧(l.flatMap iG).drop i=rest.flatMap iG∧i≤(l.flatMap iG).length∧J i D' h'∧¬ D' id∧1≤g∧h'.get id=some (.cells g ((rest.reverse++junk).flatMap aj.av))∧env.has [(0,.yield y),(3,.own id g 2 0 rest.length lim)]) _ ⟨l,[],id,g,none,0,D,rfl,ho,rfl,Nat.zero_le _,hJ2,hidD,hg1,by rw[List.append_nil];exact ad.get_set_self _ _ _,hh_⟩ ?_
 clear hJ2 hidD hg hg1 hcl1 hfr hJ1 hk hrn hcl hJ
 rintro m env h' ⟨rest,junk,ik,g,lim,i,D',rfl,hor,hdr,hi,hJ,hikD,hg1,hg,he⟩
 obtain⟨env,rfl⟩:=he.ex
 clear he
 cases rest with
 | nil =>
  simp only[List.length_nil]
  repeat' first|apply ac|(apply gw;first|refine au (v:=AV.own _ _ _ _ _ _) rfl ?_|(refine cN rfl rfl rfl ?_ ?_<;>(intro hc;try omega))|refine eS rfl ?_)|(apply gx;first|apply af|refine ae rfl ?_|apply aN|refine ai rfl ?_)|apply aa|apply aO|apply aP|apply aX
  refine nh rfl ⟨D',?_⟩
  have hlen:=congrArg List.length hdr
  rw[List.length_drop]at hlen
  have:i=((l.flatMap iG).map fun p=>[AV.agg p.av]).length:=by
   rw[List.length_map]
   simp only[List.flatMap_nil,List.length_nil]at hlen
   omega
  rw[← this]
  exact hJ
 | cons s rest =>
  have htop:((s::rest).reverse++junk)[rest.length]?=some s:=by
   rw[List.reverse_cons,List.append_assoc,List.getElem?_append_right Lm]
   simp
  have hos1:=hor s Lm
  have hb:rest.length+1≤29360128:=by
   have q1:=(oJ (l:=s::rest) fun q hq=>(hor q hq).1).1
   have q2:=(oJ hos).2
   have q3:=congrArg List.length hdr
   rw[List.length_drop]at q3
   rw[List.length_cons]at q1
   omega
  have hall:((s::rest).reverse++junk).flatMap aj.av=rest.reverse.flatMap aj.av++(s::junk).flatMap aj.av:=by
   rw[List.reverse_cons,List.append_assoc,List.flatMap_append]
   rfl
  have hlen0:(rest.reverse.flatMap aj.av).length=rest.length*2:=by rw[nf,List.length_reverse]
  simp only[List.length_cons]
  have hkp:=EX L s hos1.1.lo hos1.1.le hos1.1.hi (hos1.2 _ (Int.le_refl _) hos1.1.le)
  have hpl:=o9 hos1.1.lo hos1.1.le
  generalize hx:eX s=x at hkp hpl
  have hlo:=hos1.1.lo
  have hle:=hos1.1.le
  have hhi:=hos1.1.hi
  repeat' first|apply ac|(apply gw;first|(apply gq0;first|refine aq rfl ?_|refine au (v:=AV.own _ _ _ _ _ _) rfl ?_)|refine j6 (g:=_) rfl hg_ htop fl_ eq_ ?_|(apply gq3;first|refine jj rfl rfl rfl Ll Ll ?_|(refine cN rfl rfl rfl ?_ ?_<;>(intro hc;try omega)))|refine bv rfl rfl Ll Ll ?_|refine eS rfl ?_|(refine bV ?_;intro id hid;try simp only[ad.set_none]at hid)|refine cC (cs':=[AV.int _ _,AV.int _ _]) rfl rfl rfl rfl b_ rfl ?_)|(apply gx;first|apply af|refine ae rfl ?_|apply ay|apply al|refine ak rfl ?_)|apply aa
  refine Dg rfl rfl rfl Ll Ll ?_
  rw[show(((rest.length+1:Nat):Int)-1).toNat=rest.length by omega]
  have hne5:ik≠id:=fun e=>by rw[e,hid]at hg;cases hg
  have hJ5:J i D' (h'.set id (.cells 0 s.av)):=hnew hJ hid
  have hg5:(h'.set id (.cells 0 s.av)).get ik=some (.cells g (rest.reverse.flatMap aj.av++(s::junk).flatMap aj.av)):=by
   rw[ad.get_set_ne _ _ hne5,hg,hall]
  repeat' first|apply ac|(apply gw;first|(apply gq0;first|refine aq rfl ?_|refine au (v:=AV.own _ _ _ _ _ _) rfl ?_|refine au rv_ ?_)|refine am rfl hg_ Lm b_ pv_ ?_|(apply gq3;first|refine jj rfl rfl rfl Ll Ll ?_|(refine cN rfl rfl rfl ?_ ?_<;>(intro hc;try omega)))|refine ar rfl (Nat.zero_add _) ?_|refine aH rfl nt_ ?_|refine tF rfl rfl nt_ ?_|refine cO (cs:=[AV.int _ _,AV.int _ _]) rfl ?_|refine bj (cs:=[AV.int _ _,AV.int _ _,AV.int _ _,AV.int _ _]) rfl rfl ?_)|(apply gx;first|apply af|refine ae rfl ?_|apply ay|refine ak rfl ?_|refine ai rfl ?_)|apply aa|refine aW (by assumption) fz_ fz_ ?_
  ·have hx0:=hpl.resolve_left Ll
   refine vj (h:=h'.set id (.cells 0 s.av)) rfl hg5 hg1 (by rw[List.length_append,hlen0];omega) rfl rfl (by decide) Ll Ll ?_
   intro i2 hi2
   have hoc:=qR hos1.1 hx0.1 hx0.2
   rw[List.take_left' hlen0]
   repeat' first|apply ac|refine au (v:=AV.own _ _ _ _ _ _) rfl ?_|apply aN|apply aa|apply aO|apply aP
   refine fp (muS (⟨s.lo,x-1⟩::⟨x,s.hi⟩::rest)) (by simp only[muS,List.map_cons,List.sum_cons];omega) ⟨⟨s.lo,x-1⟩::⟨x,s.hi⟩::rest,[],i2,1,none,i,D',rfl,fun q hq=>?_,?_,hi,hnew hJ5 hi2,fun hd=>hth _ _ _ hJ5 i2 hd hi2,Nat.le_refl _,?_,hh_⟩
   ·rcases List.mem_cons.1 hq with rfl|hq
    ·exact⟨hoc.1,fun z z1 z2=>hos1.2 z z1 (by simp only at z2;omega)⟩
    ·rcases List.mem_cons.1 hq with rfl|hq
     ·exact⟨hoc.2,fun z z1 z2=>hos1.2 z (by simp only at z1;omega) z2⟩
     ·exact hor q (by simp[hq])
   ·rw[hdr,List.flatMap_cons,List.flatMap_cons,List.flatMap_cons,uL hx hx0.1 hx0.2,List.append_assoc]
   ·rw[ad.get_set_self,List.append_nil,List.reverse_cons,List.reverse_cons,List.append_assoc,List.flatMap_append]
    rfl
  ·have hx0:x=0:=by omega
   subst hx0
   rw[List.flatMap_cons,oK hx hlo]at hdr
   have hi2:(l.flatMap iG)[i]?=some s:=by
    have:=congrArg (fun t=>t[0]?) hdr
    simpa[List.getElem?_drop] using this
   refine ci (hr i [.agg s.av] (by rw[List.getElem?_map,hi2];rfl) D' _ hJ5) ?_
   rintro _ h2 ⟨rfl,hfr,D2,hJ3,hsub⟩
   have hg5:(h'.set id (.cells 0 [.int .i64 s.lo,.int .i64 s.hi])).get ik=some (.cells g (rest.reverse.flatMap aj.av++(s::junk).flatMap aj.av)):=hg5
   have hg6:h2.get ik=some (.cells g (rest.reverse.flatMap aj.av++(s::junk).flatMap aj.av)):=by
    rw[hfr ik hikD (by rw[hg5];simp),hg5]
   repeat' first|apply ac|refine dh (b:=true) rfl ?_|(apply gx;first|apply ay|refine ai rfl ?_)|apply aa|apply aI
   refine fp (muS rest) (by simp only[muS,List.map_cons,List.sum_cons];omega) ⟨rest,s::junk,ik,g,some rest.length,i+1,D2,rfl,fun q hq=>hor q (by simp[hq]),?_,by have:=lt_of_getElem? hi2;omega,hJ3,fun hd=>?_,hg1,?_,hh_⟩
   ·rw[← List.drop_drop,hdr]
    rfl
   ·rcases hsub ik hd with e|e
    ·exact hikD e
    ·rw[hg5]at e;cases e
   ·rw[hg6,List.flatMap_append]
end
section
open Go
set_option maxHeartbeats 4000000
attribute [local irreducible] az bf bm de bz cw dH bJ wop cz bc
@[reducible] def je (p:Int×Int):List AV:=[.int .u8 p.1,.int .u8 p.2]
@[reducible] def mK (r:jx):AV := .rd r.length (r.flatMap je) false
theorem zr:∀ {l:jx} {i:Nat} {a:Int×Int},i<l.length→putCells (l.flatMap je) (i*2) (je a)=(l.set i a).flatMap je
 | [],_,_,h=>by simp at h
 | s::l,0,a,_=>by
  simp[putCells,je]
 | s::l,i+1,a,h=>by
  have ih:=zr (l:=l) (i:=i) (a:=a) (by simpa using h)
  have e:(i+1)*2=(i*2)+2:=by omega
  unfold putCells at ih ⊢
  rw[List.set_cons_succ,List.flatMap_cons,List.flatMap_cons,← ih,e]
  simp[je]
theorem zF (l:jx):(l.flatMap je).length=l.length*2:=by
 induction l with
 | nil=>rfl
 | cons s l ih=>rw[List.flatMap_cons,List.length_append,ih,List.length_cons];simp[je];omega
theorem H4 {a b:List Int}{k:Nat}(ha:k<a.length)(hb:k<b.length):∃ x y,a[k]?=some x∧b[k]?=some y∧(a.zip b)[k]?=some (x,y) :=
 ⟨a[k],b[k],List.getElem?_eq_getElem ha,List.getElem?_eq_getElem hb,List.getElem?_zip_eq_some.2 ⟨List.getElem?_eq_getElem ha,List.getElem?_eq_getElem hb⟩⟩
theorem BD (l:List aj):∀ q∈eZ l,CL q:=by
 intro q hq x h1 h2
 have:=((iK l).2.1 x).1 ⟨q,hq,h1,h2⟩
 exact(gV.1 this).1
set_option maxRecDepth 100000 in
theorem Du {Φ:Lib}(L:fh Φ)(L1:il Φ)(L3:cJ Φ)(S:fv Φ)(l:List aj)(hl:l.length≤1048576)(hnl:(bd l).length≤1048576)(fl:Bool):eQ Φ 267 [.rd l.length (l.flatMap aj.av) fl] (.rd (dp l).length ((dp l).map mK) false):=by
 have k1:=s8 L1 S l hl fl
 have k2:=FE L (bd l) false hnl
 have k3:=E2 L ((bd l).flatMap dm) false
 have hone:∀ q∈(bd l).flatMap dm,OneSize q∧CL q:=fun q hq=>by
  obtain⟨s,hs,hq⟩:=List.mem_flatMap.1 hq
  refine⟨lT hq,fun x h1 h2=>?_⟩
  have hb:=oq hs
  have hx:=(wu hb.1 hb.2.1 x).1 ⟨q,hq,h1,h2⟩
  exact(gV.1 ⟨s,hs,hx⟩).1
 have hsl:=wt (bd l)
 have hI:=Ba L L3 ((bd l).flatMap dm) false Ll hone
 have hQ:((bd l).flatMap dm).flatMap iG=eZ l:=rfl
 rw[hQ]at hI
 have hfl:=(iK l).1
 have hfs:=BD l
 have hql:(eZ l).length≤29360128:=by
  have:=(oJ (l:=(bd l).flatMap dm) fun q hq=>(hone q hq).1).2
  rw[hQ]at this
  omega
 refine ba (fun _=>false) rfl L.f267 ?_
 repeat' first|apply ac|(apply gw;first|refine aG rfl ?_|refine aH rfl nt_ ?_|(refine bV ?_;intro id hid;try simp only[ad.set_none]at hid))|(apply gx;first|apply af|refine ae rfl ?_|apply al)|apply aa|refine aW (by assumption) fz_ fz_ ?_
 obtain⟨i3,rfl⟩:∃ x,x=id:=⟨_,rfl⟩
 refine wj ?_
 refine yT (xs:=(eZ l).map fun p=>[.agg p.av]) rfl hI (fun i D h'=>∃ vi,h'.get i3=some (.cells 0 [vi])∧aD h' vi 1 i (((eZ l).take i).map fun s=>mK (d5 s))∧(∀ k,D k↔(k=i3∨vi.rowId=some k))∧vi.rowId≠some i3) ?_ ?_
  (D:=fun k=>k=i3∨(AV.rd 0 [] true).rowId=some k) ⟨_,ad.get_set_self _ _ _,?_,fun _=>Iff.rfl,by simp[AV.rowId]⟩ Lm ?_ ?_
 ·rintro i D h1 h2 ⟨vi,k1,k2,k3,k4⟩ hs
  exact⟨vi,(hs i3 ((k3 i3).2 (.inl rfl))).trans k1,k2.keep fun k hk=>hs k ((k3 k).2 (.inr hk)),k3,k4⟩
 ·rintro i D h1 ⟨vi,k1,k2,k3,k4⟩ k hk
  rcases (k3 k).1 hk with rfl|hk
  ·rw[k1];simp
  ·exact k2.there hk
 ·exact aD.nil _ _
 ·intro i x hx y D h1 ⟨vi,k1,k2,k3,k4⟩ hyD hy0
  simp only[List.getElem?_map,Option.map_eq_some_iff]at hx
  obtain⟨p,hp,rfl⟩:=hx
  have hpm:=List.mem_of_getElem? hp
  have hip:=(List.getElem?_eq_some_iff.1 hp).1
  refine Ic (fun _=>false) ?_
  repeat' first|apply ac|(apply gw;first|(refine bV ?_;intro id hid;try simp only[ad.set_none]at hid)|refine cC (cs':=[AV.int _ _,AV.int _ _]) rfl rfl rfl rfl b_ rfl ?_)|refine ae rfl ?_
  obtain⟨i4,rfl⟩:∃ x,x=id:=⟨_,rfl⟩
  have hid_4:=hid
  have hD0:D i3:=(k3 i3).2 (.inl rfl)
  have hyid:y≠i3:=by rintro rfl;exact hyD hD0
  have hy1:y≠i4:=by rintro rfl;exact hy0 hid
  have h01:i3≠i4:=by rintro rfl;rw[k1]at hid;cases hid
  refine⟨rfl,ad.get_set_ne _ _ hy1,fun o=>?_⟩
  have fb_id:((h1.set i4 (.cells 0 [.int .i64 p.lo,.int .i64 p.hi])).set y o).get i4=some (.cells 0 p.av):=by
   rw[ad.get_set_ne _ _ hy1.symm];exact ad.get_set_self _ _ _
  have fb_i3:((h1.set i4 (.cells 0 [.int .i64 p.lo,.int .i64 p.hi])).set y o).get i3=some (.cells 0 [vi]):=by
   rw[ad.get_set_ne _ _ hyid.symm,ad.get_set_ne _ _ h01];exact k1
  have fb_y:((h1.set i4 (.cells 0 [.int .i64 p.lo,.int .i64 p.hi])).set y o).get y=some o:=ad.get_set_self _ _ _
  have fb:∀ k,k≠i4→k≠y→((h1.set i4 (.cells 0 [.int .i64 p.lo,.int .i64 p.hi])).set y o).get k=h1.get k:=fun k q1 q2=>by
   rw[ad.get_set_ne _ _ q2,ad.get_set_ne _ _ q1]
  have kd:∀ k,D k→k≠y∧k≠i4:=fun k hk=>⟨by rintro rfl;exact hyD hk,by rintro rfl;exact(by
   rcases (k3 _).1 hk with rfl|hk
   ·exact h01 rfl
   ·exact k2.there hk hid)⟩
  have hrow2:aD ((h1.set i4 (.cells 0 [.int .i64 p.lo,.int .i64 p.hi])).set y o) vi 1 i (((eZ l).take i).map fun s=>mK (d5 s)):=k2.keep fun k hk=>by
   obtain⟨e1,e2⟩:=kd k ((k3 k).2 (.inr hk))
   exact fb k e2 e1
  generalize (h1.set i4 (.cells 0 [.int .i64 p.lo,.int .i64 p.hi])).set y o=hb at fb_id fb_i3 fb_y fb hrow2
  have hF:=hfl p hpm
  have hSc:=hfs p hpm
  have ke1:=rU L p.lo
  have ke2:=rU L p.hi
  have e1:uI p.lo=kw (bt p.lo) false:=by unfold uI;rw[if_pos (hSc _ (Int.le_refl _) hF.le)]
  have e2:uI p.hi=kw (bt p.hi) false:=by unfold uI;rw[if_pos (hSc _ hF.le (Int.le_refl _))]
  rw[e1]at ke1
  rw[e2]at ke2
  have hla:=dq p.lo
  have hlb:=dq p.hi
  have hsz:=hF.size
  have hr4:=dn p.lo
  have hrl:(d5 p).length=(bt p.lo).length:=by unfold d5;rw[List.length_zip];omega
  obtain⟨A,hA⟩:∃ A,A=bt p.lo:=⟨_,rfl⟩
  obtain⟨B,hB⟩:∃ B,B=bt p.hi:=⟨_,rfl⟩
  rw[← hA]at ke1 hla hrl
  rw[← hB]at ke2 hlb
  refine Ic (fun o=>o == some 41) ?_
  repeat' first|apply ac|(apply gw;first|(apply gq0;first|refine aq rfl ?_|refine aG rfl ?_|refine au (v:=AV.own _ _ _ _ _ _) rfl ?_)|refine am rfl hg_ Lm b_ pv_ ?_|refine ar rfl (Nat.zero_add _) ?_|(apply gq6;first|refine aw rfl ?_|refine eS rfl ?_)|refine aH rfl nt_ ?_|(refine ix rfl rfl Ll Ll ?_;intro id hid;try simp only[ad.set_none]at hid))|(apply gx;first|apply af|refine ae rfl ?_|apply al)|apply aa|refine aW (by assumption) fz_ fz_ ?_
  obtain⟨i7,rfl⟩:∃ x,x=id:=⟨_,rfl⟩
  have h7:∀ k,hb.get k≠none→k≠i7:=fun k hk e=>hk (by rw[e,hid])
  refine bD A.length (fun k env h'=>∃ M:jx,M.length=A.length∧M.take k=(d5 p).take k∧h'=hb.set i7 (.cells 1 (M.flatMap je))∧env.has [(3,.ptr i3 0 0),(5,kw A false),(6,kw B false),(7,.own i7 1 2 0 A.length none),(24,.int .i64 A.length),(25,.int .i64 k)]) ⟨List.replicate A.length (0,0),by simp,by simp,?_,hh_⟩ ?_
  ·congr 1
   congr 1
   rw[Int.toNat_natCast]
   generalize A.length=n
   induction n with
   | zero=>rfl
   | succ n ih=>rw[List.replicate_succ,List.replicate_succ,List.flatten_cons,List.flatMap_cons,ih]
  rintro k env h' hk ⟨M,hM,hMk,rfl,he⟩
  obtain⟨env,rfl⟩:=he.ex
  clear he
  have hg7:(hb.set i7 (.cells 1 (M.flatMap je))).get i7=some (.cells 1 (M.flatMap je)):=ad.get_set_self _ _ _
  by_cases hk2:k<A.length
  ·obtain⟨a,b,ha,hb2,hz⟩:=H4 (a:=A) (b:=B) (k:=k) hk2 Ll
   have hz2:(d5 p)[k]?=some (a,b):=by unfold d5;rw[← hA,← hB];exact hz
   repeat' first|apply ac|(apply gw;first|(apply gq0;first|refine aq rfl ?_|refine aG rfl ?_|refine au (v:=AV.own _ _ _ _ _ _) rfl ?_)|refine aB rfl b_ pv_ ?_|(refine aA rfl rfl rfl ?_ ?_<;>(intro hc;try omega))|(apply gq5;first|refine ah rfl rfl ha Ll rfl ?_|refine ah rfl rfl hb2 Ll rfl ?_|refine bv rfl rfl Ll Ll ?_)|refine cO (cs:=[AV.int _ _,AV.int _ _]) rfl ?_)|(apply gx;first|apply af|refine ae rfl ?_|apply ay|apply al|refine ak rfl ?_)|apply aa
   have o1:(0+((k:Nat):Int).toNat)*2=k*2:=by omega
   refine bh (v := .agg (je (a,b))) (cs':=(M.set k (a,b)).flatMap je) rfl rfl hg7 rfl rfl (by rw[zF];omega) (by rw[o1];exact zr Ll) ?_
   rw[ad.set_set]
   repeat' first|apply ac|(apply gw;first|refine aq rfl ?_|refine aT rfl rfl rfl Ll Ll ?_)|refine ae rfl ?_|apply aa|apply aI
   refine aR hk2 ⟨M.set k (a,b),by rw[List.length_set];exact hM,?_,rfl,hh_⟩
   have hs1:(M.set k (a,b))[k]?=some (a,b):=by rw[List.getElem?_set,if_pos rfl,if_pos Ll]
   rw[aV hz2,aV hs1,List.take_set_of_le (Nat.le_refl _),hMk]
  ·have hMe:M=d5 p:=by
    rw[List.take_of_length_le Ll,List.take_of_length_le Ll]at hMk
    exact hMk
   subst hMe
   repeat' first|apply ac|(refine aA rfl rfl rfl ?_ ?_<;>(intro hc;try omega))|(apply gx;first|apply af|refine ae rfl ?_|apply aN|refine ai rfl ?_)|apply aa|apply aO|apply aP|apply aX
   have hr7:aD (hb.set i7 (.cells 1 ((d5 p).flatMap je))) (.own i7 1 2 0 A.length none) 2 A.length ((d5 p).flatMap je) := .inr ⟨i7,1,rfl,ad.get_set_self _ _ _,Nat.le_refl _,by rw[zF,hM]⟩
   refine fk 7 (v := .own i7 1 2 0 A.length none) rfl rfl hr7 ?_
   intro h3 hk0
   have hk3:∀ k,k≠i7→h3.get k=hb.get k:=fun k hne=>by
    rw[hk0 k (fun e=>hne (Option.some.inj e).symm),ad.get_set_ne _ _ hne]
   have e7:AV.rd A.length ((d5 p).flatMap je) false=mK (d5 p):=by unfold mK;rw[hM]
   rw[e7]
   have f3:h3.get i3=some (.cells 0 [vi]):=by rw[hk3 _ (h7 _ (by rw[fb_i3];simp)),fb_i3]
   have hrow3:aD h3 vi 1 i (((eZ l).take i).map fun s=>mK (d5 s)):=hrow2.keep fun k hk=>hk3 k (h7 k (hrow2.there hk))
   refine am (v:=vi) rfl f3 Lm Lm rfl ?_
   refine au (v:=mK (d5 p)) rfl ?_
   refine bj (cs:=[mK (d5 p)]) rfl rfl ?_
   refine aY (m:=1) rfl hrow3 rfl rfl Ll ?_
   intro v' h4 hr hk4 hrid
   have hgi:h4.get i3=some (.cells 0 [vi]):=by rw[hk4 i3 (by rw[f3];simp) k4,f3]
   refine bh (cs':=[v']) rfl rfl hgi hr.isVal (by rw[show ev _ _=v' from rfl,hr.cells];rfl) Lm (by rw[show ev _ _=v' from rfl,hr.cells];rfl) ?_
   repeat' first|apply ac|apply aI
   have hv0:v'.rowId≠some i3:=fun e=>by
    rcases hrid i3 e with h2|h2
    ·exact k4 h2
    ·rw[f3]at h2;cases h2
   have h17:∀ k,h1.get k≠none→k≠y→k≠i7∧hb.get k=h1.get k:=fun k hn hy=>by
    have e4:k≠i4:=by rintro rfl;exact hn hid_4
    have e:=fb k e4 hy
    exact⟨h7 k (by rw[e];exact hn),e⟩
   refine⟨rfl,fun k hkD hkn hky=>?_,?_,fun k=>k=i3∨v'.rowId=some k,⟨v',ad.get_set_self _ _ _,?_,fun _=>Iff.rfl,hv0⟩,fun k hk'=>?_⟩
   ·have e0:k≠i3:=by rintro rfl;exact hkD hD0
    obtain⟨g1,g2⟩:=h17 k hkn hky
    rw[ad.get_set_ne _ _ e0,hk4 k (by rw[hk3 k g1,g2];exact hkn) (fun e=>hkD ((k3 k).2 (.inr e))),hk3 k g1,g2]
   ·have gy:y≠i7:=h7 y (by rw[fb_y];simp)
    rw[ad.get_set_ne _ _ hyid,hk4 y (by rw[hk3 y gy,fb_y];simp) (fun e=>hyD ((k3 y).2 (.inr e))),hk3 y gy,fb_y]
   ·have e:((eZ l).take (i+1)).map (fun s=>mK (d5 s))=((eZ l).take i).map (fun s=>mK (d5 s))++[mK (d5 p)]:=by
     rw[aV hp,List.map_append,List.map_singleton]
    rw[e]
    exact hr.keep fun k hk=>ad.get_set_ne _ _ (fun e=>hv0 (by rw[hk,e]))
   ·rcases hk' with rfl|hk'
    ·exact .inl hD0
    ·rcases hrid k hk' with h2|h2
     ·exact .inl ((k3 k).2 (.inr h2))
     ·right
      apply Classical.byContradiction
      intro hn
      by_cases hy:k=y
      ·subst hy
       have gy:k≠i7:=h7 k (by rw[fb_y];simp)
       rw[hk3 k gy,fb_y]at h2
       cases h2
      ·obtain⟨g1,g2⟩:=h17 k hn hy
       rw[hk3 k g1,g2]at h2
       exact hn h2
 ·rintro D h1 ⟨vi,k1,k2,k3,k4⟩
  simp only[List.length_map,List.take_length]at k2
  repeat' first|apply ac|(apply gw;first|refine au rv_ ?_|refine am rfl hg_ Lm b_ pv_ ?_)|(apply gx;first|apply af|refine ae rfl ?_|apply aM)|apply aa|apply aI
  refine fq rfl k2 (fun _=>?_)
  unfold dp
  rw[List.length_map,List.map_map]
  rfl
end
section
open Go
set_option maxHeartbeats 4000000
def b8 (x:Int):UInt8:=UInt8.ofNat x.toNat
theorem uT {x:Int}(h0:0≤x)(h1:x≤255):((b8 x).toNat:Int)=x:=by
 unfold b8
 have:(UInt8.ofNat x.toNat).toNat=x.toNat:=by
  rw[UInt8.toNat_ofNat']
  omega
 rw[this]
 omega
theorem HS {x y:Int}(h0:0≤x∧x≤255)(h1:0≤y∧y≤255)(h:b8 x=b8 y):x=y:=by
 have e1:=uT h0.1 h0.2
 have e2:=uT h1.1 h1.2
 rw[h]at e1
 omega
structure B5 (w:Way):Prop where
 rng:∀ p∈w.1,(0≤p.1∧p.1≤255)∧(0≤p.2∧p.2≤255)
 len:w.1.length≤4
 to:0≤w.2∧w.2≤2147483647
def wG (p:Int×Int):List UInt8:=[32,b8 p.1,b8 p.2]
def mX (r:jx):List UInt8:=r.flatMap wG
def yS (w:Way):List UInt8:=dP w.2++(mX w.1++[46,b8 w.1.length])
def gU (l:List Way):List UInt8:=l.flatMap yS
theorem wx:∀ {r r':jx} {k k':UInt8} {s s':List UInt8},(∀ p∈r,(0≤p.1∧p.1≤255)∧(0≤p.2∧p.2≤255))→(∀ p∈r',(0≤p.1∧p.1≤255)∧(0≤p.2∧p.2≤255))→mX r++(46::k::s)=mX r'++(46::k'::s')→r=r'∧s=s'
 | [],[],k,k',s,s',_,_,h=>by
  have h:(46:UInt8)::k::s=46::k'::s':=h
  injection h with _ h
  injection h with _ h
  exact⟨rfl,h⟩
 | [],p::r,k,k',s,s',_,_,h=>by
  have h:(46:UInt8)::k::s=32::([b8 p.1,b8 p.2]++mX r++(46::k'::s')):=h
  injection h with h _
  exact absurd h (by decide)
 | p::r,[],k,k',s,s',_,_,h=>by
  have h:(32:UInt8)::([b8 p.1,b8 p.2]++mX r++(46::k::s))=46::k'::s':=h
  injection h with h _
  exact absurd h (by decide)
 | p::r,q::r',k,k',s,s',h1,h2,h=>by
  have h:(32:UInt8)::b8 p.1::b8 p.2::(mX r++(46::k::s))=32::b8 q.1::b8 q.2::(mX r'++(46::k'::s')):=h
  injection h with _ h
  injection h with e1 h
  injection h with e2 h
  obtain⟨i1,i2⟩:=wx (fun x hx=>h1 x (by simp[hx])) (fun x hx=>h2 x (by simp[hx])) h
  have g1:=h1 p Lm
  have g2:=h2 q Lm
  exact⟨by rw[i1,Prod.ext (HS g1.1 g2.1 e1) (HS g1.2 g2.2 e2)],i2⟩
theorem wz (r:jx)(k:UInt8)(s:List UInt8):∃ c t,mX r++(46::k::s)=c::t∧(c=32∨c=46):=by
 cases r with
 | nil=>exact⟨46,k::s,rfl,.inr rfl⟩
 | cons p r=>exact⟨32,_,rfl,.inl rfl⟩
theorem wp:∀ {a b:List UInt8} {c d:UInt8} {r s:List UInt8},(∀ x∈a,x≠32∧x≠46)→(∀ x∈b,x≠32∧x≠46)→(c=32∨c=46)→(d=32∨d=46)→a++c::r=b++d::s→a=b∧c::r=d::s
 | [],[],_,_,_,_,_,_,_,_,e=>⟨rfl,e⟩
 | [],x::b,c,d,_,_,_,hb,hc,_,e=>by
  injection e with e1 _
  have:=hb x Lm
  rcases hc with rfl|rfl
  ·exact absurd e1.symm this.1
  ·exact absurd e1.symm this.2
 | x::a,[],c,d,_,_,ha,_,_,hd,e=>by
  injection e with e1 _
  have:=ha x Lm
  rcases hd with rfl|rfl
  ·exact absurd e1 this.1
  ·exact absurd e1 this.2
 | x::a,y::b,c,d,r,s,ha,hb,hc,hd,e=>by
  injection e with e1 e2
  obtain⟨h1,h2⟩:=wp (fun z hz=>ha z (by simp[hz])) (fun z hz=>hb z (by simp[hz])) hc hd e2
  exact⟨by rw[e1,h1],h2⟩
theorem Ag:∀ u,u<36→jS u≠32∧jS u≠46:=by decide
theorem IC (u:Nat):∀ c∈iW u,c≠32∧c≠46:=by
 induction u using Nat.strongRecOn with
 | ind u ih =>
  by_cases h:u<36
  ·rw[jP h]
   intro c hc
   obtain rfl:=List.mem_singleton.1 hc
   exact Ag u h
  ·rw[ka h]
   intro c hc
   rcases List.mem_append.1 hc with hc|hc
   ·exact ih (u / 36) Ll c hc
   ·obtain rfl:=List.mem_singleton.1 hc
    exact Ag _ (Nat.mod_lt _ Ll)
theorem CA {x:Int}(h:0≤x):∀ c∈dP x,c≠32∧c≠46:=by
 unfold dP
 rw[if_neg Ll]
 exact IC _
theorem wJ:∀ {l m:List Way},(∀ w∈l,B5 w)→(∀ w∈m,B5 w)→gU l=gU m→l=m
 | [],[],_,_,_=>rfl
 | [],w::m,_,_,e=>by
  have:=congrArg List.length e
  simp[gU,yS]at this
 | w::l,[],_,_,e=>by
  have:=congrArg List.length e
  simp[gU,yS]at this
 | w::l,v::m,h1,h2,e=>by
  have g1:=h1 w Lm
  have g2:=h2 v Lm
  have e':dP w.2++(mX w.1++(46::b8 w.1.length::gU l))=dP v.2++(mX v.1++(46::b8 v.1.length::gU m)):=by simpa[gU,yS] using e
  obtain⟨c,t,ec,hc⟩:=wz w.1 (b8 w.1.length) (gU l)
  obtain⟨d,u,ed,hd⟩:=wz v.1 (b8 v.1.length) (gU m)
  rw[ec,ed]at e'
  obtain⟨k1,k2⟩:=wp (CA g1.to.1) (CA g2.to.1) hc hd e'
  rw[← ec,← ed]at k2
  obtain⟨k3,k4⟩:=wx g1.rng g2.rng k2
  rw[wJ (fun x hx=>h1 x (by simp[hx])) (fun x hx=>h2 x (by simp[hx])) k4,Prod.ext k3 (oA k1)]
@[reducible] def nT (w:Way):List AV:=[mK w.1,.int .i64 w.2]
theorem tV (r:jx):(mX r).length=3*r.length:=by
 unfold mX
 induction r with
 | nil=>rfl
 | cons p r ih=>rw[List.flatMap_cons,List.length_append,ih,List.length_cons];simp[wG];omega
theorem FV {w:Way}(h:B5 w):(yS w).length≤23:=by
 have h9:=rP (x:=w.2) (by have:=h.to;omega) h.to.2
 have hr:=tV w.1
 have:=h.len
 simp only[yS,List.length_append,List.length_cons,List.length_nil,hr]
 omega
theorem wI:∀ {l:List Way},(∀ w∈l,B5 w)→(gU l).length≤23*l.length
 | [],_=>by simp[gU]
 | w::l,h=>by
  have ih:=wI (l:=l) fun x hx=>h x (by simp[hx])
  have h1:=FV (h w Lm)
  simp only[gU,List.flatMap_cons,List.length_append,List.length_cons]at ih ⊢
  omega
theorem Bb {p:Int×Int}(h:(0≤p.1∧p.1≤255)∧(0≤p.2∧p.2≤255)):[AV.int .u8 32,.int .u8 p.1,.int .u8 p.2]=bn (wG p):=by
 have e1:=uT h.1.1 h.1.2
 have e2:=uT h.2.1 h.2.2
 simp only[bn,wG,List.map_cons,List.map_nil,e1,e2]
 rfl
@[simp] theorem Kt (r:jx):AV.frozenL (r.flatMap je)=true:=by
 induction r with
 | nil=>rfl
 | cons p r ih=>rw[List.flatMap_cons,oE,ih];simp[AV.frozenL,AV.frozen]
@[simp] theorem KO (l:List Way):AV.frozenL (l.flatMap nT)=true:=by
 induction l with
 | nil=>rfl
 | cons p r ih=>rw[List.flatMap_cons,oE,ih];simp[AV.frozenL,AV.frozen]
attribute [local irreducible] az bf bm de bz cw dH bJ wop cz bc
@[simp] theorem KD (w:Way):(nT w).length=2:=rfl
@[simp] theorem Kp (p:Int×Int):(je p).length=2:=rfl
set_option maxRecDepth 100000 in
theorem IE {Φ:Lib}(L:fh Φ)(L3:cJ Φ)(l:List Way)(fl:Bool)(hl:l.length≤4194304)(hw:∀ w∈l,B5 w):eQ Φ 297 [.rd l.length (l.flatMap nT) fl] (.str (gU l)):=by
 refine ba (fun _=>false) rfl L.f297 ?_
 repeat' first|apply ac|(apply gw;first|(apply gq0;first|refine aq rfl ?_|refine aG rfl ?_|refine au (v:=AV.str _) rfl ?_)|refine aw rfl ?_)|(apply gx;first|apply af|refine ae rfl ?_|apply al)|apply aa
 refine bD l.length (fun i env h'=>∃ v,Sep h' [j4 ad.empty,cA v 1 (gU (l.take i)).length (bn (gU (l.take i)))]∧env.has [(3,v),(8,.rd l.length (l.flatMap nT) fl),(9,.int .i64 l.length),(10,.int .i64 i)]) ⟨_,(Sep.old ad.empty).nil 1,hh_⟩ ?_
 rintro i env h' hi ⟨v,hS,he⟩
 obtain⟨env,rfl⟩:=he.ex
 clear he
 have hv:aD h' v 1 _ _:=hS.get (i:=1) rfl
 have hnt:=hv.notTup
 have hlen:=wI (l:=l.take i) fun w hw2=>hw w (List.mem_of_mem_take hw2)
 rw[List.length_take]at hlen
 by_cases hi2:i<l.length
 ·obtain⟨w,hx⟩:=aK hi2
  have hwb:=hw w (List.mem_of_getElem? hx)
  have hwt:=hwb.to
  have h9:=rP (x:=w.2) Ll hwt.2
  repeat' first|apply ac|(apply gw;first|refine au rv_ ?_|(apply gq2;first|refine jl rfl (by first|rfl|(simp[*];done)|fail) ?_|refine am rfl hg_ Lm b_ pv_ ?_)|(refine aA rfl rfl rfl ?_ ?_<;>(intro hc;try omega))|refine ar rfl (Nat.zero_add _) ?_|refine cM rfl fl_ rfl hx Ll rfl ?_|refine aH rfl nt_ ?_|(refine bV ?_;intro id hid;try simp only[ad.set_none]at hid)|refine bh (v:=AV.agg _) rfl rfl hg_ rfl rfl b_ sv_ ?_)|(apply gx;first|apply af|refine ae rfl ?_|apply ay|apply al|refine ak rfl ?_)|apply aa
  rw[ad.set_set]
  obtain⟨i5,rfl⟩:∃ x,x=id:=⟨_,rfl⟩
  have hS1:=hS.new (o := .cells 0 (nT w)) hid
  have hv1:aD _ v 1 _ _:=hS1.get (i:=1) rfl
  refine ci (kC L3 hv1 Ll w.2 Ll Ll) ?_
  rintro v2 h2 ⟨hv2,hk2,hi2'⟩
  have hS2:=hS1.upd 1 (cA v2 1 _ _) rfl hv2 hk2 hi2'
  rw[← fJ,← List.length_append]at hS2
  have hnt2:=hv2.notTup
  have h5:h2.get i5=some (.cells 0 (nT w)):=hS2.get (i:=2) rfl
  clear hS1 hv1 hv2 hk2 hi2' hS hid hv hnt
  have hsn:gU (l.take (i+1))=gU (l.take i)++yS w:=by
   rw[aV hx]
   simp[gU]
  have hrl:=tV w.1
  have hwl:=hwb.len
  repeat' first|apply ac|(apply gw;first|(apply gq0;first|refine aq rfl ?_|refine au rv_ ?_)|refine am rfl hg_ Lm b_ pv_ ?_|refine ar rfl (Nat.zero_add _) ?_|refine aw rfl ?_)|(apply gx;first|apply af|refine ae rfl ?_|apply al)|apply aa
  refine bD w.1.length (fun j env h'=>∃ v,Sep h' [j4 ad.empty,cA v 1 (gU (l.take i)++dP w.2++mX (w.1.take j)).length (bn (gU (l.take i)++dP w.2++mX (w.1.take j))),bU i5 (.cells 0 (nT w))]∧env.has [(3,v),(5,.ptr i5 0 0),(8,.rd l.length (l.flatMap nT) fl),(9,.int .i64 l.length),(10,.int .i64 i),(19,mK w.1),(20,.int .i64 w.1.length),(21,.int .i64 j)]) ⟨v2,by rw[List.take_zero,show mX []=[] from rfl,List.append_nil];exact hS2,hh_⟩ ?_
  clear hS2 h5 hnt2
  rintro j env h' hj ⟨v,hS,he⟩
  obtain⟨env,rfl⟩:=he.ex
  clear he
  have hv:aD h' v 1 _ _:=hS.get (i:=1) rfl
  have hnt:=hv.notTup
  have h5:h'.get i5=some (.cells 0 (nT w)):=hS.get (i:=2) rfl
  have hTl:(gU (l.take i)++dP w.2++mX (w.1.take j)).length≤96469100:=by
   rw[List.length_append,List.length_append,tV,List.length_take]
   omega
  by_cases hj2:j<w.1.length
  ·obtain⟨p,hp⟩:=aK hj2
   have hpr:=hwb.rng p (List.mem_of_getElem? hp)
   have hsn2:mX (w.1.take (j+1))=mX (w.1.take j)++wG p:=by
    rw[aV hp]
    simp[mX]
   repeat' first|apply ac|(apply gw;first|(apply gq0;first|refine aq rfl ?_|refine au rv_ ?_)|(apply gq2;first|refine jl rfl (by first|rfl|(simp[*];done)|fail) ?_|refine am rfl hg_ Lm b_ pv_ ?_)|(apply gq3;first|refine aT rfl rfl rfl Ll Ll ?_|(refine aA rfl rfl rfl ?_ ?_<;>(intro hc;try omega)))|refine ar rfl (Nat.zero_add _) ?_|refine cM rfl fl_ rfl hp Ll rfl ?_|(refine bV ?_;intro id hid;try simp only[ad.set_none]at hid)|refine cC (cs':=[AV.int _ _,AV.int _ _]) rfl rfl rfl rfl b_ rfl ?_|(refine aY rv_ ir_ rfl Lm (by first|omega|(simp;omega)) ?_;intro va hpa hra hka hria)|refine bj rfl rfl ?_)|(apply gx;first|apply af|refine ae rfl ?_|apply ay|apply al|refine ak rfl ?_)|apply aa|apply aI
   have hS1:=hS.new (o := .cells 0 [.int .u8 p.1,.int .u8 p.2]) hid
   have hS2:=hS1.upd 1 (cA va 1 _ _) rfl hra hka hria
   have hS3:=hS2.drop 3 (h':=hpa) rfl (fun _ _=>rfl)
   refine aR hj2 ⟨va,?_,hh_⟩
   rw[hsn2,← List.append_assoc,fJ,List.length_append (bs:=wG p),← Bb hpr]
   exact hS3
  ·repeat' first|apply ac|(apply gw;first|(apply gq0;first|refine aq rfl ?_|refine au rv_ ?_)|refine am rfl hg_ Lm b_ pv_ ?_|(apply gq3;first|refine aT rfl rfl rfl Ll Ll ?_|(refine aA rfl rfl rfl ?_ ?_<;>(intro hc;try omega)))|refine ar rfl (Nat.zero_add _) ?_|refine aw rfl ?_|(refine aY rv_ ir_ rfl Lm (by first|omega|(simp;omega)) ?_;intro va hpa hra hka hria)|refine bj (cs:=[AV.int _ _,AV.int _ _]) rfl rfl ?_|refine kV rfl Ll ?_)|(apply gx;first|apply af|refine ae rfl ?_|apply aN|refine ai rfl ?_)|apply aa|apply aO|apply aI|apply aP|apply aX
   have hS2:=hS.upd 1 (cA va 1 _ _) rfl hra hka hria
   have hS3:=hS2.drop 2 (h':=hpa) rfl (fun _ _=>rfl)
   refine aR hi2 ⟨va,?_,hh_⟩
   have e46:[AV.int .u8 46,.int .u8 ((w.1.length:Int)%256)]=bn [46,b8 w.1.length]:=by
    have hL:((w.1.length:Nat):Int)≤255:=by have:=hwb.len;omega
    have e1:=uT (x:=((w.1.length:Nat):Int)) (Int.natCast_nonneg _) hL
    simp only[bn,List.map_cons,List.map_nil,e1]
    rw[show((w.1.length:Nat):Int)%256=((w.1.length:Nat):Int) from Int.emod_eq_of_lt (Int.natCast_nonneg _) Ll]
    rfl
   have e47:gU (l.take (i+1))=gU (l.take i)++dP w.2++mX (w.1.take j)++[46,b8 w.1.length]:=by
    rw[hsn,List.take_of_length_le (l:=w.1) (i:=j) Ll]
    simp[yS]
   rw[e47,fJ,List.length_append (bs:=[46,_]),← e46]
   exact hS3
 ·rw[List.take_of_length_le Ll]at hv
  have hns:v.isStr=false:=by rcases hv with⟨rfl,_⟩|⟨_,_,rfl,_⟩<;>rfl
  repeat' first|apply ac|(apply gw;first|refine au rv_ ?_|(refine aA rfl rfl rfl ?_ ?_<;>(intro hc;try omega)))|(apply gx;first|apply af|refine ae rfl ?_|apply aN|refine ai rfl ?_)|apply aa|apply aO|apply aP|apply aX
  refine lP rfl hns (gd hv) ?_
  repeat' first|apply ac|refine au (v:=AV.str _) rfl ?_|apply aM|apply aa
  exact aJ rfl rfl
end
end Go.Proofs.YtlnobeojgifojaaGreatDoor
