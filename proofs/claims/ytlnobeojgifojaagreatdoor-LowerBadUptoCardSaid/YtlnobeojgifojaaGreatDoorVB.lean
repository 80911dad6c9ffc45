/- slices.Reverse of spans. seqs.parts: spans cut till nothing is to be cut, one by one. seqs.Of: a set's rows of ranges of bytes. lower.name: ways as one text. -/
import Derived.Test.YtlnobeojgifojaaGreatDoorVA
set_option linter.unusedVariables false
set_option linter.unusedSimpArgs false
namespace Go.Proofs.YtlnobeojgifojaaGreatDoor
section
open Go
set_option maxHeartbeats 4000000
attribute [local irreducible] aw bg bm dg bz cw dO bH wop cz a8
theorem t0:∀ {l:List ai} {i:Nat} {a:ai},i<l.length→putCells (l.flatMap ai.av) (i*2) a.av=(l.set i a).flatMap ai.av
 | [],_,_,h=>by simp at h
 | s::l,0,a,_=>by
  simp[putCells,ai.av]
 | s::l,i+1,a,h=>by
  have ih:=t0 (l:=l) (i:=i) (a:=a) (by simpa using h)
  have e:(i+1)*2=(i*2)+2:=by omega
  unfold putCells at ih ⊢
  rw[List.set_cons_succ,List.flatMap_cons,List.flatMap_cons,← ih,e]
  simp[ai.av]
theorem mY (l:List ai):(l.flatMap ai.av).length=l.length*2:=by
 induction l with
 | nil=>rfl
 | cons s l ih=>rw[List.flatMap_cons,List.length_append,ih,List.length_cons];simp[ai.av];omega
theorem ac.set_same {h:ac}{i:Nat}{o:iP}(hg:h.get i=some o):h.set i o=h:=by
 have:(h.set i o).get=h.get:=by
  funext j
  rw[ac.get_set]
  split
  ·rename_i e;rw[e,hg]
  ·rfl
 generalize hx:h.set i o=x at this
 cases x;cases h;cases this;rfl
set_option maxRecDepth 100000 in
theorem AR {Φ:Lib}(L:fd Φ){h:ac}{id g:Nat}(l:List ai)(hg:h.get id=some (.cells g (l.flatMap ai.av)))(hl:l.length≤4294967296) :
  a8 Φ 291 [.own id g 2 0 l.length none] h (fun _ h'=>h'=h.set id (.cells g (l.reverse.flatMap ai.av))):=by
 refine aY (fun _=>false) rfl L.f291 ?_
 repeat' first|apply ad|(apply gw;first|(apply gq0;first|refine am rfl ?_|refine aq (v:=AV.own _ _ _ _ _ _) rfl ?_)|refine eS rfl rfl rfl (by omega) (by omega) ?_|refine eM rfl ?_)|(apply gx;first|apply af|refine ae rfl ?_|apply al)|apply aa
 refine iq (fun m env h'=>∃ (i:Nat) (M:List ai),m=l.length-i∧2*i≤l.length+1∧M.length=l.length∧(∀ k,k<l.length→M[k]?=if k<i∨l.length-i≤k then l[l.length-1-k]? else l[k]?)∧h'=h.set id (.cells g (M.flatMap ai.av))∧env.has [(0,.own id g 2 0 l.length none),(2,.int .i64 i),(3,.int .i64 ((l.length:Int)-1-i))]) _ ⟨0,l,rfl,by omega,rfl,fun k hk=>by rw[if_neg (by omega)],?_,?_⟩ ?_
 ·exact(ac.set_same hg).symm
 ·rw[show((l.length:Int)-1-((0:Nat):Int))=(l.length:Int)-1 by omega]
  exact hh_
 rintro m env h' ⟨i,M,rfl,hi,hM,hk,rfl,he⟩
 obtain⟨env,rfl⟩:=he.ex
 clear he
 by_cases hi2:2*i+1<l.length
 ·obtain⟨a,ha⟩:=aK (l:=M) (i:=i) (by omega)
  obtain⟨b,hb⟩:=aK (l:=M) (i:=l.length-1-i) (by omega)
  have hgt:(h.set id (.cells g (M.flatMap ai.av))).get id=some (.cells g (M.flatMap ai.av)):=ac.get_set_self _ _ _
  repeat' first|apply ad|(apply gw;first|(apply gq0;first|refine am rfl ?_|refine aq (v:=AV.own _ _ _ _ _ _) rfl ?_)|(apply gq2;first|refine jZ (g:=_) rfl hg_ ha fl_ eq_ ?_|refine jZ (g:=_) rfl hg_ hb fl_ eq_ ?_)|(refine aA rfl rfl rfl ?_ ?_<;>(intro hc;try (exfalso;omega)))|refine bu rfl rfl (by omega) (by omega) ?_)|(apply gx;first|apply af|refine ae rfl ?_|apply ay|apply al|refine ak rfl ?_)|apply aa
  have o1:(0+((i:Nat):Int).toNat)*2=i*2:=by omega
  have o2:(0+((l.length:Int)-1-(i:Int)).toNat)*2=(l.length-1-i)*2:=by omega
  refine bh (v := .agg b.av) (cs':=(M.set i b).flatMap ai.av) rfl rfl hgt rfl rfl (by rw[mY];omega) (by rw[o1];exact t0 (by omega)) ?_
  rw[ac.set_set]
  have hgt2:(h.set id (.cells g ((M.set i b).flatMap ai.av))).get id=some (.cells g ((M.set i b).flatMap ai.av)):=ac.get_set_self _ _ _
  repeat' first|refine bu rfl rfl (by omega) (by omega) ?_
  refine bh (v := .agg a.av) (cs':=((M.set i b).set (l.length-1-i) a).flatMap ai.av) rfl rfl hgt2 rfl rfl (by rw[mY,List.length_set];omega) (by rw[o2];exact t0 (by rw[List.length_set];omega)) ?_
  rw[ac.set_set]
  repeat' first|apply ad|(apply gw;first|refine am rfl ?_|(apply gq3;first|refine aQ rfl rfl rfl (by omega) (by omega) ?_|refine eS rfl rfl rfl (by omega) (by omega) ?_))|refine ae rfl ?_|apply aa|apply aF
  refine fA (l.length-(i+1)) (by omega) ⟨i+1,(M.set i b).set (l.length-1-i) a,rfl,by omega,by simp[hM],fun k hk2=>?_,rfl,?_⟩
  ·have h1:=hk i (by omega)
   have h2:=hk (l.length-1-i) (by omega)
   rw[if_neg (by omega)]at h1
   rw[if_neg (by omega)]at h2
   rw[List.getElem?_set,List.getElem?_set]
   by_cases e1:l.length-1-i=k
   ·rw[if_pos e1,if_pos (by rw[List.length_set];omega),if_pos (by omega),← e1,show l.length-1-(l.length-1-i)=i by omega,← h1,ha]
   ·rw[if_neg e1]
    by_cases e2:i=k
    ·rw[if_pos e2,if_pos (by omega),if_pos (by omega),← e2,← h2,hb]
    ·rw[if_neg e2,hk k hk2]
     by_cases e3:k<i∨l.length-i≤k
     ·rw[if_pos e3,if_pos (by omega)]
     ·rw[if_neg e3,if_neg (by omega)]
  ·rw[show((l.length:Int)-1-((i+1:Nat):Int))=(l.length:Int)-1-i-1 by omega]
   exact hh_
 ·repeat' first|apply ad|(apply gw;first|refine am rfl ?_|(refine aA rfl rfl rfl ?_ ?_<;>(intro hc;try (exfalso;omega))))|(apply gx;first|apply af|refine ae rfl ?_|apply aL|refine ah rfl ?_)|apply aa|apply aM|apply aN|apply aR
  have hrev:M=l.reverse:=by
   refine List.ext_getElem? fun k=>?_
   by_cases hk2:k<l.length
   ·rw[hk k hk2,List.getElem?_reverse hk2]
    by_cases e3:k<i∨l.length-i≤k
    ·rw[if_pos e3]
    ·rw[if_neg e3,show l.length-1-k=k by omega]
   ·rw[List.getElem?_eq_none (by omega),List.getElem?_eq_none (by simp;omega)]
  subst hrev
  exact m5 rfl rfl
end
section
open Go
set_option maxHeartbeats 4000000
section
variable {F:bT} {r:List bF} {Q:Env→ac→Prop} {env:Env} {h:ac} {d:Nat} {x y z:bt}
theorem C4 {id g e n:Nat}{lim:Option Nat}{k k':IntKind}{j:Int}(hx:ev env x = .own id g e 0 n lim)(hy:ev env y = .int k j)(hz:ev env z = .int k' j)(h0:0≤j)(h1:j≤n)(k1:aw F r Q (env.put d (.own id g e 0 j.toNat (some j.toNat))) h):aw F (⟨some d,.slice e x none (some y) (some z),none⟩::r) Q env h:=by
 simp only[bM,oK,aT,hx,eP,hy,hz,Option.bind_some,bE]
 rw[if_pos ⟨by omega,h0,h1,trivial,trivial⟩]
 simpa using k1
theorem u6 {id g e n m c:Nat}{cs new:List AV}{f:Bool}(hx:ev env x = .own id g e 0 n (some c))(hg:h.get id=some (.cells g cs))(hg1:1≤g)(hn:n*e≤cs.length)(hy:ev env y = .rd m new f)(hm:new.length=m*e)(hm0:m≠0)(hc:c<n+m)(hle:n+m≤4294967296)
  (k:∀ id',h.get id'=none→aw F r Q (env.put d (.own id' 1 e 0 (n+m) none)) (h.set id' (.cells 1 (cs.take (n*e)++new)))):aw F (⟨some d,.append e x y,none⟩::r) Q env h:=by
 have hmax:kC=4294967296:=rfl
 simp only[bM,ku,dn,hx,hy,bv,hm,if_true,Option.bind_some,bE]
 simp only[hg]
 rw[if_pos ⟨trivial,hg1,trivial,by omega,by rw[Nat.zero_add];exact hn⟩]
 simp only[hm0,if_false,hc,if_true,Nat.zero_mul,List.drop_zero]
 exact k
end
attribute [local irreducible] aw bg bm dg bz cw dO bH wop cz a8
theorem EU {Φ:Lib}(L:fd Φ)(l:List ai)(fl:Bool):fg Φ 275 [.rd l.length (l.flatMap ai.av) fl] (.fn 290 [.rp [.rd l.length (l.flatMap ai.av) fl]]):=by
 refine aY (fun _=>false) rfl L.f275 ?_
 repeat' first|apply ad|(apply gw;first|(apply gq0;first|refine aq (v:=AV.fn _ _) rfl ?_|refine aq (v:=AV.nilf) rfl ?_)|(refine iV (v:=AV.rd _ _ _) rfl rfl ?_;intro id hid;try simp only[ac.set_none]at hid)|refine qu (vs:=[AV.ptr _ _ _]) rfl rfl ?_)|(apply gx;first|apply af|refine ae rfl ?_|apply aJ)|apply aa
 exact fM (fun _=>True) rfl (.fn (.cons (.ptr trivial (ac.get_set_self _ _ _) (by simp) (FzL.same _)) .nil)) rfl
theorem za {Φ:Lib}(L:fd Φ):fg Φ 291 [.rd 0 [] true] (.tup []):=by
 refine aY (fun _=>false) rfl L.f291 ?_
 repeat' first|apply ad|(apply gw;first|(apply gq0;first|refine am rfl ?_|refine aG rfl ?_)|refine eS rfl rfl rfl (by omega) (by omega) ?_|refine az rfl ?_)|(apply gx;first|apply af|refine ae rfl ?_|apply al)|apply aa
 refine iq (fun m env h'=>env.has [(2,.int .i64 0),(3,.int .i64 (-1))]) 0 (hh_) ?_
 rintro m env h' he
 obtain⟨env,rfl⟩:=he.ex
 clear he
 repeat' first|apply ad|(apply gw;first|refine am rfl ?_|(refine aA rfl rfl rfl ?_ ?_<;>(intro hc;try (exfalso;omega))))|(apply gx;first|apply af|refine ae rfl ?_|apply aL|refine ah rfl ?_)|apply aa|apply aM|apply aN|apply aR
 exact m5 rfl rfl
def CA (s:ai):Prop:=∀ x,s.lo≤x→x≤s.hi→cv x=true
def muS (l:List ai):Nat:=(l.map fun s=>2*(s.hi-s.lo).toNat+1).sum
theorem Hk {s:ai}(h:OneSize s):1≤(iF s).length:=by
 obtain⟨q,hq,_⟩:=((lB s h).2.1 s.lo).2 ⟨Int.le_refl _,h.le⟩
 exact List.length_pos_of_mem hq
theorem Hl {s:ai}(h:OneSize s):(iF s).length≤7:=by
 have:=rP (jb (bB s.lo)) [] rfl s h rfl (fun q hq=>by cases hq)
 have hl:(jb (bB s.lo)).length≤3:=by
  unfold jb
  split<;>simp
 omega
theorem oC:∀ {l:List ai},(∀ s∈l,OneSize s)→l.length≤(l.flatMap iF).length∧(l.flatMap iF).length≤7*l.length
 | [],_=>by simp
 | s::l,h=>by
  have ih:=oC (l:=l) fun q hq=>h q (by simp[hq])
  have h1:=Hk (h s (by simp))
  have h2:=Hl (h s (by simp))
  rw[List.flatMap_cons,List.length_append,List.length_cons]
  omega
set_option maxRecDepth 100000 in
theorem AW {Φ:Lib}(L:fd Φ)(L3:cP Φ)(l:List ai)(fl:Bool)(hl:l.length≤4194304)(ho:∀ s∈l,OneSize s∧CA s):IW Φ 290 [.rp [.rd l.length (l.flatMap ai.av) fl]] ((l.flatMap iF).map fun p=>[.agg p.av]):=by
 intro y J hst hth hr D h hJ
 have hnew:∀ {i:Nat} {D:Nat→Prop} {h:ac} {id:Nat} {o:iP},J i D h→h.get id=none→J i D (h.set id o):=fun hj hn=>hst _ _ _ _ hj fun k hk=>ac.get_set_ne _ _ (fun e=>hth _ _ _ hj k hk (e ▸ hn))
 have hcl:=Fr L3 (h:=h) (v := .rd l.length (l.flatMap ai.av) fl) (n:=l.length) (cs:=l.flatMap ai.av) (if_pos (mY l)) (mY l) rfl rfl (by omega)
 have hrn:=za L
 refine aY (fun _=>false) rfl L.f290 ?_
 repeat' first|(apply gw;first|refine aB rfl b_ pv_ ?_|refine aI rfl nt_ ?_)|(apply gx;first|apply af|refine ae rfl ?_)
 refine cd hcl ?_
 intro v h1 ⟨hrow,hk,hfr⟩
 have hJ1:J 0 D h1:=hst _ _ _ _ hJ fun k hd=>hk k (hth _ _ _ hJ k hd)
 rcases hrow with⟨rfl,hn0,hcs⟩|⟨id,g,rfl,hg,hg1,hcl1⟩
 ·have:l=[]:=List.eq_nil_of_length_eq_zero hn0
  subst this
  repeat' first|apply ad|(apply gw;first|refine aG rfl ?_|refine aI rfl nt_ ?_)|(apply gx;first|apply af|refine ae rfl ?_|apply al)|apply aa|refine aU (by assumption) fz_ fz_ ?_
  refine iq (fun m env h'=>J 0 D h'∧env.has [(3,.rd 0 [] true)]) 0 ⟨hJ1,hh_⟩ ?_
  rintro m env h' ⟨hJ2,he⟩
  obtain⟨env,rfl⟩:=he.ex
  clear he
  repeat' first|apply ad|(apply gw;first|refine aG rfl ?_|(refine cY rfl rfl rfl ?_ ?_<;>(intro hc;try (exfalso;omega)))|refine az rfl ?_)|(apply gx;first|apply af|refine ae rfl ?_|apply aL|refine ah rfl ?_)|apply aa|apply aM|apply aN|apply aR
  exact m5 rfl ⟨D,hJ2⟩
 have hidD:¬ D id:=fun hd=>hth _ _ _ hJ id hd (hfr id rfl)
 repeat' first|apply ad|(apply gw;first|refine aq (v:=AV.own _ _ _ _ _ _) rfl ?_|refine aI rfl nt_ ?_)|(apply gx;first|apply af|refine ae rfl ?_)|apply aa
 refine cd (AR L l hg (by omega)) ?_
 rintro _ _ rfl
 have hJ2:J 0 D (h1.set id (.cells g (l.reverse.flatMap ai.av))):=hst _ _ _ _ hJ1 fun k hd=>ac.get_set_ne _ _ (fun e=>hidD (e ▸ hd))
 have hos:∀ s∈l,OneSize s:=fun s hs=>(ho s hs).1
 repeat' first|apply ad|apply al|apply aa
 refine iq (fun m env h'=>∃ (rest junk:List ai) (id g:Nat) (lim:Option Nat) (i:Nat) (D':Nat→Prop),m=muS rest∧(∀ s∈rest,OneSize s∧CA s)∧(l.flatMap iF).drop i=rest.flatMap iF∧i≤(l.flatMap iF).length∧J i D' h'∧¬ D' id∧1≤g∧h'.get id=some (.cells g ((rest.reverse++junk).flatMap ai.av))∧env.has [(0,.yield y),(3,.own id g 2 0 rest.length lim)]) _ ⟨l,[],id,g,none,0,D,rfl,ho,rfl,Nat.zero_le _,hJ2,hidD,hg1,by rw[List.append_nil];exact ac.get_set_self _ _ _,hh_⟩ ?_
 clear hJ2 hidD hg hg1 hcl1 hfr hJ1 hk hrn hcl hJ
 rintro m env h' ⟨rest,junk,ik,g,lim,i,D',rfl,hor,hdr,hi,hJ,hikD,hg1,hg,he⟩
 obtain⟨env,rfl⟩:=he.ex
 clear he
 cases rest with
 | nil =>
  simp only[List.length_nil]
  repeat' first|apply ad|(apply gw;first|refine aq (v:=AV.own _ _ _ _ _ _) rfl ?_|(refine cY rfl rfl rfl ?_ ?_<;>(intro hc;try (exfalso;omega)))|refine eM rfl ?_)|(apply gx;first|apply af|refine ae rfl ?_|apply aL|refine ah rfl ?_)|apply aa|apply aM|apply aN|apply aR
  refine m5 rfl ⟨D',?_⟩
  have hlen:=congrArg List.length hdr
  rw[List.length_drop]at hlen
  have:i=((l.flatMap iF).map fun p=>[AV.agg p.av]).length:=by
   rw[List.length_map]
   simp only[List.flatMap_nil,List.length_nil]at hlen
   omega
  rw[← this]
  exact hJ
 | cons s rest =>
  have htop:((s::rest).reverse++junk)[rest.length]?=some s:=by
   rw[List.reverse_cons,List.append_assoc,List.getElem?_append_right (by simp)]
   simp
  have hos1:=hor s (by simp)
  have hb:rest.length+1≤29360128:=by
   have q1:=(oC (l:=s::rest) fun q hq=>(hor q hq).1).1
   have q2:=(oC hos).2
   have q3:=congrArg List.length hdr
   rw[List.length_drop]at q3
   rw[List.length_cons]at q1
   omega
  have hall:((s::rest).reverse++junk).flatMap ai.av=rest.reverse.flatMap ai.av++(s::junk).flatMap ai.av:=by
   rw[List.reverse_cons,List.append_assoc,List.flatMap_append]
   rfl
  have hlen0:(rest.reverse.flatMap ai.av).length=rest.length*2:=by rw[mY,List.length_reverse]
  simp only[List.length_cons]
  have hkp:=EP L s hos1.1.lo hos1.1.le hos1.1.hi (hos1.2 _ (Int.le_refl _) hos1.1.le)
  have hpl:=oX hos1.1.lo hos1.1.le
  generalize hx:eU s=x at hkp hpl
  have hlo:=hos1.1.lo
  have hle:=hos1.1.le
  have hhi:=hos1.1.hi
  repeat' first|apply ad|(apply gw;first|(apply gq0;first|refine am rfl ?_|refine aq (v:=AV.own _ _ _ _ _ _) rfl ?_)|refine jZ (g:=_) rfl hg_ htop fl_ eq_ ?_|(apply gq3;first|refine eS rfl rfl rfl (by omega) (by omega) ?_|(refine cY rfl rfl rfl ?_ ?_<;>(intro hc;try (exfalso;omega))))|refine bu rfl rfl (by omega) (by omega) ?_|refine eM rfl ?_|(refine bZ ?_;intro id hid;try simp only[ac.set_none]at hid)|refine cD (cs':=[AV.int _ _,AV.int _ _]) rfl rfl rfl rfl b_ rfl ?_)|(apply gx;first|apply af|refine ae rfl ?_|apply ay|apply al|refine ak rfl ?_)|apply aa
  refine C4 rfl rfl rfl (by omega) (by omega) ?_
  rw[show(((rest.length+1:Nat):Int)-1).toNat=rest.length by omega]
  have hne5:ik≠id:=fun e=>by rw[e,hid]at hg;cases hg
  have hJ5:J i D' (h'.set id (.cells 0 s.av)):=hnew hJ hid
  have hg5:(h'.set id (.cells 0 s.av)).get ik=some (.cells g (rest.reverse.flatMap ai.av++(s::junk).flatMap ai.av)):=by
   rw[ac.get_set_ne _ _ hne5,hg,hall]
  repeat' first|apply ad|(apply gw;first|(apply gq0;first|refine am rfl ?_|refine aq (v:=AV.own _ _ _ _ _ _) rfl ?_|refine aq rv_ ?_)|refine ar rfl hg_ (by simp) b_ pv_ ?_|(apply gq3;first|refine eS rfl rfl rfl (by omega) (by omega) ?_|(refine cY rfl rfl rfl ?_ ?_<;>(intro hc;try (exfalso;omega))))|refine au rfl (Nat.zero_add _) ?_|refine aI rfl nt_ ?_|refine tz rfl rfl nt_ ?_|refine cJ (cs:=[AV.int _ _,AV.int _ _]) rfl ?_|refine bk (cs:=[AV.int _ _,AV.int _ _,AV.int _ _,AV.int _ _]) rfl rfl ?_)|(apply gx;first|apply af|refine ae rfl ?_|apply ay|refine ak rfl ?_|refine ah rfl ?_)|apply aa|refine aU (by assumption) fz_ fz_ ?_
  ·have hx0:=hpl.resolve_left (by omega)
   refine u6 (h:=h'.set id (.cells 0 s.av)) rfl hg5 hg1 (by rw[List.length_append,hlen0];omega) rfl rfl (by decide) (by omega) (by omega) ?_
   intro i2 hi2
   have hoc:=qL hos1.1 hx0.1 hx0.2
   rw[List.take_left' hlen0]
   repeat' first|apply ad|refine aq (v:=AV.own _ _ _ _ _ _) rfl ?_|apply aL|apply aa|apply aM|apply aN
   refine fA (muS (⟨s.lo,x-1⟩::⟨x,s.hi⟩::rest)) (by simp only[muS,List.map_cons,List.sum_cons];omega) ⟨⟨s.lo,x-1⟩::⟨x,s.hi⟩::rest,[],i2,1,none,i,D',rfl,fun q hq=>?_,?_,hi,hnew hJ5 hi2,fun hd=>hth _ _ _ hJ5 i2 hd hi2,Nat.le_refl _,?_,hh_⟩
   ·rcases List.mem_cons.1 hq with rfl|hq
    ·exact⟨hoc.1,fun z z1 z2=>hos1.2 z z1 (by simp only at z2;omega)⟩
    ·rcases List.mem_cons.1 hq with rfl|hq
     ·exact⟨hoc.2,fun z z1 z2=>hos1.2 z (by simp only at z1;omega) z2⟩
     ·exact hor q (by simp[hq])
   ·rw[hdr,List.flatMap_cons,List.flatMap_cons,List.flatMap_cons,uE hx hx0.1 hx0.2,List.append_assoc]
   ·rw[ac.get_set_self,List.append_nil,List.reverse_cons,List.reverse_cons,List.append_assoc,List.flatMap_append]
    rfl
  ·have hx0:x=0:=by omega
   subst hx0
   rw[List.flatMap_cons,oD hx hlo]at hdr
   have hi2:(l.flatMap iF)[i]?=some s:=by
    have:=congrArg (fun t=>t[0]?) hdr
    simpa[List.getElem?_drop] using this
   refine cd (hr i [.agg s.av] (by rw[List.getElem?_map,hi2];rfl) D' _ hJ5) ?_
   rintro _ h2 ⟨rfl,hfr,D2,hJ3,hsub⟩
   have hg5:(h'.set id (.cells 0 [.int .i64 s.lo,.int .i64 s.hi])).get ik=some (.cells g (rest.reverse.flatMap ai.av++(s::junk).flatMap ai.av)):=hg5
   have hg6:h2.get ik=some (.cells g (rest.reverse.flatMap ai.av++(s::junk).flatMap ai.av)):=by
    rw[hfr ik hikD (by rw[hg5];simp),hg5]
   repeat' first|apply ad|refine dp (b:=true) rfl ?_|(apply gx;first|apply ay|refine ah rfl ?_)|apply aa|apply aF
   refine fA (muS rest) (by simp only[muS,List.map_cons,List.sum_cons];omega) ⟨rest,s::junk,ik,g,some rest.length,i+1,D2,rfl,fun q hq=>hor q (by simp[hq]),?_,by have:=lt_of_getElem? hi2;omega,hJ3,fun hd=>?_,hg1,?_,hh_⟩
   ·rw[← List.drop_drop,hdr]
    rfl
   ·rcases hsub ik hd with e|e
    ·exact hikD e
    ·rw[hg5]at e;cases e
   ·rw[hg6,List.flatMap_append]
end
section
open Go
set_option maxHeartbeats 4000000
attribute [local irreducible] aw bg bm dg bz cw dO bH wop cz a8
@[reducible] def jc (p:Int×Int):List AV:=[.int .u8 p.1,.int .u8 p.2]
@[reducible] def mC (r:ju):AV := .rd r.length (r.flatMap jc) false
theorem zg:∀ {l:ju} {i:Nat} {a:Int×Int},i<l.length→putCells (l.flatMap jc) (i*2) (jc a)=(l.set i a).flatMap jc
 | [],_,_,h=>by simp at h
 | s::l,0,a,_=>by
  simp[putCells,jc]
 | s::l,i+1,a,h=>by
  have ih:=zg (l:=l) (i:=i) (a:=a) (by simpa using h)
  have e:(i+1)*2=(i*2)+2:=by omega
  unfold putCells at ih ⊢
  rw[List.set_cons_succ,List.flatMap_cons,List.flatMap_cons,← ih,e]
  simp[jc]
theorem zr (l:ju):(l.flatMap jc).length=l.length*2:=by
 induction l with
 | nil=>rfl
 | cons s l ih=>rw[List.flatMap_cons,List.length_append,ih,List.length_cons];simp[jc];omega
theorem HP {a b:List Int}{k:Nat}(ha:k<a.length)(hb:k<b.length):∃ x y,a[k]?=some x∧b[k]?=some y∧(a.zip b)[k]?=some (x,y) :=
 ⟨a[k],b[k],List.getElem?_eq_getElem ha,List.getElem?_eq_getElem hb,List.getElem?_zip_eq_some.2 ⟨List.getElem?_eq_getElem ha,List.getElem?_eq_getElem hb⟩⟩
theorem Bp (l:List ai):∀ q∈eV l,CA q:=by
 intro q hq x h1 h2
 have:=((iJ l).2.1 x).1 ⟨q,hq,h1,h2⟩
 exact(gV.1 this).1
set_option maxRecDepth 100000 in
theorem Dj {Φ:Lib}(L:fd Φ)(L1:ii Φ)(L3:cP Φ)(S:fo Φ)(l:List ai)(hl:l.length≤1048576)(hnl:(bi l).length≤1048576)(fl:Bool):fg Φ 267 [.rd l.length (l.flatMap ai.av) fl] (.rd (dh l).length ((dh l).map mC) false):=by
 have k1:=sV L1 S l hl fl
 have k2:=Fv L (bi l) false hnl
 have k3:=EU L ((bi l).flatMap de) false
 have hone:∀ q∈(bi l).flatMap de,OneSize q∧CA q:=fun q hq=>by
  obtain⟨s,hs,hq⟩:=List.mem_flatMap.1 hq
  refine⟨lM hq,fun x h1 h2=>?_⟩
  have hb:=og hs
  have hx:=(wk hb.1 hb.2.1 x).1 ⟨q,hq,h1,h2⟩
  exact(gV.1 ⟨s,hs,hx⟩).1
 have hsl:=wj (bi l)
 have hI:=AW L L3 ((bi l).flatMap de) false (by omega) hone
 have hQ:((bi l).flatMap de).flatMap iF=eV l:=rfl
 rw[hQ]at hI
 have hfl:=(iJ l).1
 have hfs:=Bp l
 have hql:(eV l).length≤29360128:=by
  have:=(oC (l:=(bi l).flatMap de) fun q hq=>(hone q hq).1).2
  rw[hQ]at this
  omega
 refine aY (fun _=>false) rfl L.f267 ?_
 repeat' first|apply ad|(apply gw;first|refine aG rfl ?_|refine aI rfl nt_ ?_|(refine bZ ?_;intro id hid;try simp only[ac.set_none]at hid))|(apply gx;first|apply af|refine ae rfl ?_|apply al)|apply aa|refine aU (by assumption) fz_ fz_ ?_
 obtain⟨i3,rfl⟩:∃ x,x=id:=⟨_,rfl⟩
 refine v7 ?_
 refine yG (xs:=(eV l).map fun p=>[.agg p.av]) rfl hI (fun i D h'=>∃ vi,h'.get i3=some (.cells 0 [vi])∧aC h' vi 1 i (((eV l).take i).map fun s=>mC (dY s))∧(∀ k,D k↔(k=i3∨vi.rowId=some k))∧vi.rowId≠some i3) ?_ ?_
  (D:=fun k=>k=i3∨(AV.rd 0 [] true).rowId=some k) ⟨_,ac.get_set_self _ _ _,?_,fun _=>Iff.rfl,by simp[AV.rowId]⟩ (by simp) ?_ ?_
 ·rintro i D h1 h2 ⟨vi,k1,k2,k3,k4⟩ hs
  exact⟨vi,(hs i3 ((k3 i3).2 (.inl rfl))).trans k1,k2.keep fun k hk=>hs k ((k3 k).2 (.inr hk)),k3,k4⟩
 ·rintro i D h1 ⟨vi,k1,k2,k3,k4⟩ k hk
  rcases (k3 k).1 hk with rfl|hk
  ·rw[k1];simp
  ·exact k2.there hk
 ·exact aC.nil _ _
 ·intro i x hx y D h1 ⟨vi,k1,k2,k3,k4⟩ hyD hy0
  simp only[List.getElem?_map,Option.map_eq_some_iff]at hx
  obtain⟨p,hp,rfl⟩:=hx
  have hpm:=List.mem_of_getElem? hp
  have hip:=(List.getElem?_eq_some_iff.1 hp).1
  refine HX (fun _=>false) ?_
  repeat' first|apply ad|(apply gw;first|(refine bZ ?_;intro id hid;try simp only[ac.set_none]at hid)|refine cD (cs':=[AV.int _ _,AV.int _ _]) rfl rfl rfl rfl b_ rfl ?_)|refine ae rfl ?_
  obtain⟨i4,rfl⟩:∃ x,x=id:=⟨_,rfl⟩
  have hid_4:=hid
  have hD0:D i3:=(k3 i3).2 (.inl rfl)
  have hyid:y≠i3:=by rintro rfl;exact hyD hD0
  have hy1:y≠i4:=by rintro rfl;exact hy0 hid
  have h01:i3≠i4:=by rintro rfl;rw[k1]at hid;cases hid
  refine⟨rfl,ac.get_set_ne _ _ hy1,fun o=>?_⟩
  have fb_id:((h1.set i4 (.cells 0 [.int .i64 p.lo,.int .i64 p.hi])).set y o).get i4=some (.cells 0 p.av):=by
   rw[ac.get_set_ne _ _ hy1.symm];exact ac.get_set_self _ _ _
  have fb_i3:((h1.set i4 (.cells 0 [.int .i64 p.lo,.int .i64 p.hi])).set y o).get i3=some (.cells 0 [vi]):=by
   rw[ac.get_set_ne _ _ hyid.symm,ac.get_set_ne _ _ h01];exact k1
  have fb_y:((h1.set i4 (.cells 0 [.int .i64 p.lo,.int .i64 p.hi])).set y o).get y=some o:=ac.get_set_self _ _ _
  have fb:∀ k,k≠i4→k≠y→((h1.set i4 (.cells 0 [.int .i64 p.lo,.int .i64 p.hi])).set y o).get k=h1.get k:=fun k q1 q2=>by
   rw[ac.get_set_ne _ _ q2,ac.get_set_ne _ _ q1]
  have kd:∀ k,D k→k≠y∧k≠i4:=fun k hk=>⟨by rintro rfl;exact hyD hk,by rintro rfl;exact(by
   rcases (k3 _).1 hk with rfl|hk
   ·exact h01 rfl
   ·exact k2.there hk hid)⟩
  have hrow2:aC ((h1.set i4 (.cells 0 [.int .i64 p.lo,.int .i64 p.hi])).set y o) vi 1 i (((eV l).take i).map fun s=>mC (dY s)):=k2.keep fun k hk=>by
   obtain⟨e1,e2⟩:=kd k ((k3 k).2 (.inr hk))
   exact fb k e2 e1
  generalize (h1.set i4 (.cells 0 [.int .i64 p.lo,.int .i64 p.hi])).set y o=hb at fb_id fb_i3 fb_y fb hrow2
  have hF:=hfl p hpm
  have hSc:=hfs p hpm
  have ke1:=rN L p.lo
  have ke2:=rN L p.hi
  have e1:uB p.lo=jk (br p.lo) false:=by unfold uB;rw[if_pos (hSc _ (Int.le_refl _) hF.le)]
  have e2:uB p.hi=jk (br p.hi) false:=by unfold uB;rw[if_pos (hSc _ hF.le (Int.le_refl _))]
  rw[e1]at ke1
  rw[e2]at ke2
  have hla:=dv p.lo
  have hlb:=dv p.hi
  have hsz:=hF.size
  have hr4:=cO p.lo
  have hrl:(dY p).length=(br p.lo).length:=by unfold dY;rw[List.length_zip];omega
  obtain⟨A,hA⟩:∃ A,A=br p.lo:=⟨_,rfl⟩
  obtain⟨B,hB⟩:∃ B,B=br p.hi:=⟨_,rfl⟩
  rw[← hA]at ke1 hla hrl
  rw[← hB]at ke2 hlb
  refine HX (fun o=>o == some 41) ?_
  repeat' first|apply ad|(apply gw;first|(apply gq0;first|refine am rfl ?_|refine aG rfl ?_|refine aq (v:=AV.own _ _ _ _ _ _) rfl ?_)|refine ar rfl hg_ (by simp) b_ pv_ ?_|refine au rfl (Nat.zero_add _) ?_|(apply gq6;first|refine az rfl ?_|refine eM rfl ?_)|refine aI rfl nt_ ?_|(refine iu rfl rfl (by omega) (by omega) ?_;intro id hid;try simp only[ac.set_none]at hid))|(apply gx;first|apply af|refine ae rfl ?_|apply al)|apply aa|refine aU (by assumption) fz_ fz_ ?_
  obtain⟨i7,rfl⟩:∃ x,x=id:=⟨_,rfl⟩
  have h7:∀ k,hb.get k≠none→k≠i7:=fun k hk e=>hk (by rw[e,hid])
  refine bG A.length (fun k env h'=>∃ M:ju,M.length=A.length∧M.take k=(dY p).take k∧h'=hb.set i7 (.cells 1 (M.flatMap jc))∧env.has [(3,.ptr i3 0 0),(5,jk A false),(6,jk B false),(7,.own i7 1 2 0 A.length none),(24,.int .i64 A.length),(25,.int .i64 k)]) ⟨List.replicate A.length (0,0),by simp,by simp,?_,hh_⟩ ?_
  ·congr 1
   congr 1
   rw[Int.toNat_natCast]
   generalize A.length=n
   induction n with
   | zero=>rfl
   | succ n ih=>rw[List.replicate_succ,List.replicate_succ,List.flatten_cons,List.flatMap_cons,ih]
  rintro k env h' hk ⟨M,hM,hMk,rfl,he⟩
  obtain⟨env,rfl⟩:=he.ex
  clear he
  have hg7:(hb.set i7 (.cells 1 (M.flatMap jc))).get i7=some (.cells 1 (M.flatMap jc)):=ac.get_set_self _ _ _
  by_cases hk2:k<A.length
  ·obtain⟨a,b,ha,hb2,hz⟩:=HP (a:=A) (b:=B) (k:=k) hk2 (by omega)
   have hz2:(dY p)[k]?=some (a,b):=by unfold dY;rw[← hA,← hB];exact hz
   repeat' first|apply ad|(apply gw;first|(apply gq0;first|refine am rfl ?_|refine aG rfl ?_|refine aq (v:=AV.own _ _ _ _ _ _) rfl ?_)|refine aB rfl b_ pv_ ?_|(refine aA rfl rfl rfl ?_ ?_<;>(intro hc;try (exfalso;omega)))|(apply gq5;first|refine aj rfl rfl ha (by omega) rfl ?_|refine aj rfl rfl hb2 (by omega) rfl ?_|refine bu rfl rfl (by omega) (by omega) ?_)|refine cJ (cs:=[AV.int _ _,AV.int _ _]) rfl ?_)|(apply gx;first|apply af|refine ae rfl ?_|apply ay|apply al|refine ak rfl ?_)|apply aa
   have o1:(0+((k:Nat):Int).toNat)*2=k*2:=by omega
   refine bh (v := .agg (jc (a,b))) (cs':=(M.set k (a,b)).flatMap jc) rfl rfl hg7 rfl rfl (by rw[zr];omega) (by rw[o1];exact zg (by omega)) ?_
   rw[ac.set_set]
   repeat' first|apply ad|(apply gw;first|refine am rfl ?_|refine aQ rfl rfl rfl (by omega) (by omega) ?_)|refine ae rfl ?_|apply aa|apply aF
   refine aP hk2 ⟨M.set k (a,b),by rw[List.length_set];exact hM,?_,rfl,hh_⟩
   have hs1:(M.set k (a,b))[k]?=some (a,b):=by rw[List.getElem?_set,if_pos rfl,if_pos (by omega)]
   rw[aS hz2,aS hs1,List.take_set_of_le (Nat.le_refl _),hMk]
  ·have hMe:M=dY p:=by
    rw[List.take_of_length_le (by omega),List.take_of_length_le (by omega)]at hMk
    exact hMk
   subst hMe
   repeat' first|apply ad|(refine aA rfl rfl rfl ?_ ?_<;>(intro hc;try (exfalso;omega)))|(apply gx;first|apply af|refine ae rfl ?_|apply aL|refine ah rfl ?_)|apply aa|apply aM|apply aN|apply aR
   have hr7:aC (hb.set i7 (.cells 1 ((dY p).flatMap jc))) (.own i7 1 2 0 A.length none) 2 A.length ((dY p).flatMap jc) := .inr ⟨i7,1,rfl,ac.get_set_self _ _ _,Nat.le_refl _,by rw[zr,hM]⟩
   refine ga 7 (v := .own i7 1 2 0 A.length none) rfl rfl hr7 ?_
   intro h3 hk0
   have hk3:∀ k,k≠i7→h3.get k=hb.get k:=fun k hne=>by
    rw[hk0 k (fun e=>hne (Option.some.inj e).symm),ac.get_set_ne _ _ hne]
   have e7:AV.rd A.length ((dY p).flatMap jc) false=mC (dY p):=by unfold mC;rw[hM]
   rw[e7]
   have f3:h3.get i3=some (.cells 0 [vi]):=by rw[hk3 _ (h7 _ (by rw[fb_i3];simp)),fb_i3]
   have hrow3:aC h3 vi 1 i (((eV l).take i).map fun s=>mC (dY s)):=hrow2.keep fun k hk=>hk3 k (h7 k (hrow2.there hk))
   refine ar (v:=vi) rfl f3 (by simp) (by simp) rfl ?_
   refine aq (v:=mC (dY p)) rfl ?_
   refine bk (cs:=[mC (dY p)]) rfl rfl ?_
   refine aX (m:=1) rfl hrow3 rfl rfl (by omega) ?_
   intro v' h4 hr hk4 hrid
   have hgi:h4.get i3=some (.cells 0 [vi]):=by rw[hk4 i3 (by rw[f3];simp) k4,f3]
   refine bh (cs':=[v']) rfl rfl hgi hr.isVal (by rw[show ev _ _=v' from rfl,hr.cells];rfl) (by simp) (by rw[show ev _ _=v' from rfl,hr.cells];rfl) ?_
   repeat' first|apply ad|apply aF
   have hv0:v'.rowId≠some i3:=fun e=>by
    rcases hrid i3 e with h2|h2
    ·exact k4 h2
    ·rw[f3]at h2;cases h2
   have h17:∀ k,h1.get k≠none→k≠y→k≠i7∧hb.get k=h1.get k:=fun k hn hy=>by
    have e4:k≠i4:=by rintro rfl;exact hn hid_4
    have e:=fb k e4 hy
    exact⟨h7 k (by rw[e];exact hn),e⟩
   refine⟨rfl,fun k hkD hkn hky=>?_,?_,fun k=>k=i3∨v'.rowId=some k,⟨v',ac.get_set_self _ _ _,?_,fun _=>Iff.rfl,hv0⟩,fun k hk'=>?_⟩
   ·have e0:k≠i3:=by rintro rfl;exact hkD hD0
    obtain⟨g1,g2⟩:=h17 k hkn hky
    rw[ac.get_set_ne _ _ e0,hk4 k (by rw[hk3 k g1,g2];exact hkn) (fun e=>hkD ((k3 k).2 (.inr e))),hk3 k g1,g2]
   ·have gy:y≠i7:=h7 y (by rw[fb_y];simp)
    rw[ac.get_set_ne _ _ hyid,hk4 y (by rw[hk3 y gy,fb_y];simp) (fun e=>hyD ((k3 y).2 (.inr e))),hk3 y gy,fb_y]
   ·have e:((eV l).take (i+1)).map (fun s=>mC (dY s))=((eV l).take i).map (fun s=>mC (dY s))++[mC (dY p)]:=by
     rw[aS hp,List.map_append,List.map_singleton]
    rw[e]
    exact hr.keep fun k hk=>ac.get_set_ne _ _ (fun e=>hv0 (by rw[hk,e]))
   ·rcases hk' with rfl|hk'
    ·exact .inl hD0
    ·rcases hrid k hk' with h2|h2
     ·exact .inl ((k3 k).2 (.inr h2))
     ·right
      apply Classical.byContradiction
      intro hn
      by_cases hy:k=y
      ·subst hy
       have gy:k≠i7:=h7 k (by rw[fb_y];simp)
       rw[hk3 k gy,fb_y]at h2
       cases h2
      ·obtain⟨g1,g2⟩:=h17 k hn hy
       rw[hk3 k g1,g2]at h2
       exact hn h2
 ·rintro D h1 ⟨vi,k1,k2,k3,k4⟩
  simp only[List.length_map,List.take_length]at k2
  repeat' first|apply ad|(apply gw;first|refine aq rv_ ?_|refine ar rfl hg_ (by simp) b_ pv_ ?_)|(apply gx;first|apply af|refine ae rfl ?_|apply aJ)|apply aa|apply aF
  refine fj rfl k2 (fun _=>?_)
  unfold dh
  rw[List.length_map,List.map_map]
  rfl
end
section
open Go
set_option maxHeartbeats 4000000
def b8 (x:Int):UInt8:=UInt8.ofNat x.toNat
theorem uM {x:Int}(h0:0≤x)(h1:x≤255):((b8 x).toNat:Int)=x:=by
 unfold b8
 have:(UInt8.ofNat x.toNat).toNat=x.toNat:=by
  rw[UInt8.toNat_ofNat']
  omega
 rw[this]
 omega
theorem HF {x y:Int}(h0:0≤x∧x≤255)(h1:0≤y∧y≤255)(h:b8 x=b8 y):x=y:=by
 have e1:=uM h0.1 h0.2
 have e2:=uM h1.1 h1.2
 rw[h]at e1
 omega
structure BN (w:Way):Prop where
 rng:∀ p∈w.1,(0≤p.1∧p.1≤255)∧(0≤p.2∧p.2≤255)
 len:w.1.length≤4
 to:0≤w.2∧w.2≤2147483647
def wx (p:Int×Int):List UInt8:=[32,b8 p.1,b8 p.2]
def mO (r:ju):List UInt8:=r.flatMap wx
def yF (w:Way):List UInt8:=dM w.2++(mO w.1++[46,b8 w.1.length])
def gU (l:List Way):List UInt8:=l.flatMap yF
theorem wm:∀ {r r':ju} {k k':UInt8} {s s':List UInt8},(∀ p∈r,(0≤p.1∧p.1≤255)∧(0≤p.2∧p.2≤255))→(∀ p∈r',(0≤p.1∧p.1≤255)∧(0≤p.2∧p.2≤255))→mO r++(46::k::s)=mO r'++(46::k'::s')→r=r'∧s=s'
 | [],[],k,k',s,s',_,_,h=>by
  have h:(46:UInt8)::k::s=46::k'::s':=h
  injection h with _ h
  injection h with _ h
  exact⟨rfl,h⟩
 | [],p::r,k,k',s,s',_,_,h=>by
  have h:(46:UInt8)::k::s=32::([b8 p.1,b8 p.2]++mO r++(46::k'::s')):=h
  injection h with h _
  exact absurd h (by decide)
 | p::r,[],k,k',s,s',_,_,h=>by
  have h:(32:UInt8)::([b8 p.1,b8 p.2]++mO r++(46::k::s))=46::k'::s':=h
  injection h with h _
  exact absurd h (by decide)
 | p::r,q::r',k,k',s,s',h1,h2,h=>by
  have h:(32:UInt8)::b8 p.1::b8 p.2::(mO r++(46::k::s))=32::b8 q.1::b8 q.2::(mO r'++(46::k'::s')):=h
  injection h with _ h
  injection h with e1 h
  injection h with e2 h
  obtain⟨i1,i2⟩:=wm (fun x hx=>h1 x (by simp[hx])) (fun x hx=>h2 x (by simp[hx])) h
  have g1:=h1 p (by simp)
  have g2:=h2 q (by simp)
  exact⟨by rw[i1,Prod.ext (HF g1.1 g2.1 e1) (HF g1.2 g2.2 e2)],i2⟩
theorem wn (r:ju)(k:UInt8)(s:List UInt8):∃ c t,mO r++(46::k::s)=c::t∧(c=32∨c=46):=by
 cases r with
 | nil=>exact⟨46,k::s,rfl,.inr rfl⟩
 | cons p r=>exact⟨32,_,rfl,.inl rfl⟩
theorem wg:∀ {a b:List UInt8} {c d:UInt8} {r s:List UInt8},(∀ x∈a,x≠32∧x≠46)→(∀ x∈b,x≠32∧x≠46)→(c=32∨c=46)→(d=32∨d=46)→a++c::r=b++d::s→a=b∧c::r=d::s
 | [],[],_,_,_,_,_,_,_,_,e=>⟨rfl,e⟩
 | [],x::b,c,d,_,_,_,hb,hc,_,e=>by
  injection e with e1 _
  have:=hb x (by simp)
  rcases hc with rfl|rfl
  ·exact absurd e1.symm this.1
  ·exact absurd e1.symm this.2
 | x::a,[],c,d,_,_,ha,_,_,hd,e=>by
  injection e with e1 _
  have:=ha x (by simp)
  rcases hd with rfl|rfl
  ·exact absurd e1 this.1
  ·exact absurd e1 this.2
 | x::a,y::b,c,d,r,s,ha,hb,hc,hd,e=>by
  injection e with e1 e2
  obtain⟨h1,h2⟩:=wg (fun z hz=>ha z (by simp[hz])) (fun z hz=>hb z (by simp[hz])) hc hd e2
  exact⟨by rw[e1,h1],h2⟩
theorem z3:∀ u,u<36→jP u≠32∧jP u≠46:=by decide
theorem Io (u:Nat):∀ c∈iW u,c≠32∧c≠46:=by
 induction u using Nat.strongRecOn with
 | ind u ih =>
  by_cases h:u<36
  ·rw[jK h]
   intro c hc
   obtain rfl:=List.mem_singleton.1 hc
   exact z3 u h
  ·rw[j6 h]
   intro c hc
   rcases List.mem_append.1 hc with hc|hc
   ·exact ih (u / 36) (by omega) c hc
   ·obtain rfl:=List.mem_singleton.1 hc
    exact z3 _ (Nat.mod_lt _ (by omega))
theorem Co {x:Int}(h:0≤x):∀ c∈dM x,c≠32∧c≠46:=by
 unfold dM
 rw[if_neg (by omega)]
 exact Io _
theorem wB:∀ {l m:List Way},(∀ w∈l,BN w)→(∀ w∈m,BN w)→gU l=gU m→l=m
 | [],[],_,_,_=>rfl
 | [],w::m,_,_,e=>by
  have:=congrArg List.length e
  simp[gU,yF]at this
 | w::l,[],_,_,e=>by
  have:=congrArg List.length e
  simp[gU,yF]at this
 | w::l,v::m,h1,h2,e=>by
  have g1:=h1 w (by simp)
  have g2:=h2 v (by simp)
  have e':dM w.2++(mO w.1++(46::b8 w.1.length::gU l))=dM v.2++(mO v.1++(46::b8 v.1.length::gU m)):=by simpa[gU,yF] using e
  obtain⟨c,t,ec,hc⟩:=wn w.1 (b8 w.1.length) (gU l)
  obtain⟨d,u,ed,hd⟩:=wn v.1 (b8 v.1.length) (gU m)
  rw[ec,ed]at e'
  obtain⟨k1,k2⟩:=wg (Co g1.to.1) (Co g2.to.1) hc hd e'
  rw[← ec,← ed]at k2
  obtain⟨k3,k4⟩:=wm g1.rng g2.rng k2
  rw[wB (fun x hx=>h1 x (by simp[hx])) (fun x hx=>h2 x (by simp[hx])) k4,Prod.ext k3 (ou k1)]
@[reducible] def nL (w:Way):List AV:=[mC w.1,.int .i64 w.2]
theorem tP (r:ju):(mO r).length=3*r.length:=by
 unfold mO
 induction r with
 | nil=>rfl
 | cons p r ih=>rw[List.flatMap_cons,List.length_append,ih,List.length_cons];simp[wx];omega
theorem FL {w:Way}(h:BN w):(yF w).length≤23:=by
 have h9:=rI (x:=w.2) (by have:=h.to;omega) h.to.2
 have hr:=tP w.1
 have:=h.len
 simp only[yF,List.length_append,List.length_cons,List.length_nil,hr]
 omega
theorem wA:∀ {l:List Way},(∀ w∈l,BN w)→(gU l).length≤23*l.length
 | [],_=>by simp[gU]
 | w::l,h=>by
  have ih:=wA (l:=l) fun x hx=>h x (by simp[hx])
  have h1:=FL (h w (by simp))
  simp only[gU,List.flatMap_cons,List.length_append,List.length_cons]at ih ⊢
  omega
theorem AX {p:Int×Int}(h:(0≤p.1∧p.1≤255)∧(0≤p.2∧p.2≤255)):[AV.int .u8 32,.int .u8 p.1,.int .u8 p.2]=bl (wx p):=by
 have e1:=uM h.1.1 h.1.2
 have e2:=uM h.2.1 h.2.2
 simp only[bl,wx,List.map_cons,List.map_nil,e1,e2]
 rfl
@[simp] theorem Kg (r:ju):AV.frozenL (r.flatMap jc)=true:=by
 induction r with
 | nil=>rfl
 | cons p r ih=>rw[List.flatMap_cons,oy,ih];simp[AV.frozenL,AV.frozen]
@[simp] theorem KB (l:List Way):AV.frozenL (l.flatMap nL)=true:=by
 induction l with
 | nil=>rfl
 | cons p r ih=>rw[List.flatMap_cons,oy,ih];simp[AV.frozenL,AV.frozen]
attribute [local irreducible] aw bg bm dg bz cw dO bH wop cz a8
@[simp] theorem Kq (w:Way):(nL w).length=2:=rfl
@[simp] theorem Kc (p:Int×Int):(jc p).length=2:=rfl
set_option maxRecDepth 100000 in
theorem Iq {Φ:Lib}(L:fd Φ)(L3:cP Φ)(l:List Way)(fl:Bool)(hl:l.length≤4194304)(hw:∀ w∈l,BN w):fg Φ 297 [.rd l.length (l.flatMap nL) fl] (.str (gU l)):=by
 refine aY (fun _=>false) rfl L.f297 ?_
 repeat' first|apply ad|(apply gw;first|(apply gq0;first|refine am rfl ?_|refine aG rfl ?_|refine aq (v:=AV.str _) rfl ?_)|refine az rfl ?_)|(apply gx;first|apply af|refine ae rfl ?_|apply al)|apply aa
 refine bG l.length (fun i env h'=>∃ v,Sep h' [kg ac.empty,cC v 1 (gU (l.take i)).length (bl (gU (l.take i)))]∧env.has [(3,v),(8,.rd l.length (l.flatMap nL) fl),(9,.int .i64 l.length),(10,.int .i64 i)]) ⟨_,(Sep.old ac.empty).nil 1,hh_⟩ ?_
 rintro i env h' hi ⟨v,hS,he⟩
 obtain⟨env,rfl⟩:=he.ex
 clear he
 have hv:aC h' v 1 _ _:=hS.get (i:=1) rfl
 have hnt:=hv.notTup
 have hlen:=wA (l:=l.take i) fun w hw2=>hw w (List.mem_of_mem_take hw2)
 rw[List.length_take]at hlen
 by_cases hi2:i<l.length
 ·obtain⟨w,hx⟩:=aK hi2
  have hwb:=hw w (List.mem_of_getElem? hx)
  have hwt:=hwb.to
  have h9:=rI (x:=w.2) (by omega) hwt.2
  repeat' first|apply ad|(apply gw;first|refine aq rv_ ?_|(apply gq2;first|refine jM rfl (by first|rfl|(simp[*];done)|fail) ?_|refine ar rfl hg_ (by simp) b_ pv_ ?_)|(refine aA rfl rfl rfl ?_ ?_<;>(intro hc;try (exfalso;omega)))|refine au rfl (Nat.zero_add _) ?_|refine dF rfl fl_ rfl hx (by omega) rfl ?_|refine aI rfl nt_ ?_|(refine bZ ?_;intro id hid;try simp only[ac.set_none]at hid)|refine bh (v:=AV.agg _) rfl rfl hg_ rfl rfl b_ sv_ ?_)|(apply gx;first|apply af|refine ae rfl ?_|apply ay|apply al|refine ak rfl ?_)|apply aa
  rw[ac.set_set]
  obtain⟨i5,rfl⟩:∃ x,x=id:=⟨_,rfl⟩
  have hS1:=hS.new (o := .cells 0 (nL w)) hid
  have hv1:aC _ v 1 _ _:=hS1.get (i:=1) rfl
  refine cd (kw L3 hv1 (by omega) w.2 (by omega) (by omega)) ?_
  rintro v2 h2 ⟨hv2,hk2,hi2'⟩
  have hS2:=hS1.upd 1 (cC v2 1 _ _) rfl hv2 hk2 hi2'
  rw[← fI,← List.length_append]at hS2
  have hnt2:=hv2.notTup
  have h5:h2.get i5=some (.cells 0 (nL w)):=hS2.get (i:=2) rfl
  clear hS1 hv1 hv2 hk2 hi2' hS hid hv hnt
  have hsn:gU (l.take (i+1))=gU (l.take i)++yF w:=by
   rw[aS hx]
   simp[gU]
  have hrl:=tP w.1
  have hwl:=hwb.len
  repeat' first|apply ad|(apply gw;first|(apply gq0;first|refine am rfl ?_|refine aq rv_ ?_)|refine ar rfl hg_ (by simp) b_ pv_ ?_|refine au rfl (Nat.zero_add _) ?_|refine az rfl ?_)|(apply gx;first|apply af|refine ae rfl ?_|apply al)|apply aa
  refine bG w.1.length (fun j env h'=>∃ v,Sep h' [kg ac.empty,cC v 1 (gU (l.take i)++dM w.2++mO (w.1.take j)).length (bl (gU (l.take i)++dM w.2++mO (w.1.take j))),ce i5 (.cells 0 (nL w))]∧env.has [(3,v),(5,.ptr i5 0 0),(8,.rd l.length (l.flatMap nL) fl),(9,.int .i64 l.length),(10,.int .i64 i),(19,mC w.1),(20,.int .i64 w.1.length),(21,.int .i64 j)]) ⟨v2,by rw[List.take_zero,show mO []=[] from rfl,List.append_nil];exact hS2,hh_⟩ ?_
  clear hS2 h5 hnt2
  rintro j env h' hj ⟨v,hS,he⟩
  obtain⟨env,rfl⟩:=he.ex
  clear he
  have hv:aC h' v 1 _ _:=hS.get (i:=1) rfl
  have hnt:=hv.notTup
  have h5:h'.get i5=some (.cells 0 (nL w)):=hS.get (i:=2) rfl
  have hTl:(gU (l.take i)++dM w.2++mO (w.1.take j)).length≤96469100:=by
   rw[List.length_append,List.length_append,tP,List.length_take]
   omega
  by_cases hj2:j<w.1.length
  ·obtain⟨p,hp⟩:=aK hj2
   have hpr:=hwb.rng p (List.mem_of_getElem? hp)
   have hsn2:mO (w.1.take (j+1))=mO (w.1.take j)++wx p:=by
    rw[aS hp]
    simp[mO]
   repeat' first|apply ad|(apply gw;first|(apply gq0;first|refine am rfl ?_|refine aq rv_ ?_)|(apply gq2;first|refine jM rfl (by first|rfl|(simp[*];done)|fail) ?_|refine ar rfl hg_ (by simp) b_ pv_ ?_)|(apply gq3;first|refine aQ rfl rfl rfl (by omega) (by omega) ?_|(refine aA rfl rfl rfl ?_ ?_<;>(intro hc;try (exfalso;omega))))|refine au rfl (Nat.zero_add _) ?_|refine dF rfl fl_ rfl hp (by omega) rfl ?_|(refine bZ ?_;intro id hid;try simp only[ac.set_none]at hid)|refine cD (cs':=[AV.int _ _,AV.int _ _]) rfl rfl rfl rfl b_ rfl ?_|(refine aX rv_ ir_ rfl (by simp) (by first|omega|(simp;omega)) ?_;intro va hpa hra hka hria)|refine bk rfl rfl ?_)|(apply gx;first|apply af|refine ae rfl ?_|apply ay|apply al|refine ak rfl ?_)|apply aa|apply aF
   have hS1:=hS.new (o := .cells 0 [.int .u8 p.1,.int .u8 p.2]) hid
   have hS2:=hS1.upd 1 (cC va 1 _ _) rfl hra hka hria
   have hS3:=hS2.drop 3 (h':=hpa) rfl (fun _ _=>rfl)
   refine aP hj2 ⟨va,?_,hh_⟩
   rw[hsn2,← List.append_assoc,fI,List.length_append (bs:=wx p),← AX hpr]
   exact hS3
  ·repeat' first|apply ad|(apply gw;first|(apply gq0;first|refine am rfl ?_|refine aq rv_ ?_)|refine ar rfl hg_ (by simp) b_ pv_ ?_|(apply gq3;first|refine aQ rfl rfl rfl (by omega) (by omega) ?_|(refine aA rfl rfl rfl ?_ ?_<;>(intro hc;try (exfalso;omega))))|refine au rfl (Nat.zero_add _) ?_|refine az rfl ?_|(refine aX rv_ ir_ rfl (by simp) (by first|omega|(simp;omega)) ?_;intro va hpa hra hka hria)|refine bk (cs:=[AV.int _ _,AV.int _ _]) rfl rfl ?_|refine qv rfl (by omega) ?_)|(apply gx;first|apply af|refine ae rfl ?_|apply aL|refine ah rfl ?_)|apply aa|apply aM|apply aF|apply aN|apply aR
   have hS2:=hS.upd 1 (cC va 1 _ _) rfl hra hka hria
   have hS3:=hS2.drop 2 (h':=hpa) rfl (fun _ _=>rfl)
   refine aP hi2 ⟨va,?_,hh_⟩
   have e46:[AV.int .u8 46,.int .u8 ((w.1.length:Int)%256)]=bl [46,b8 w.1.length]:=by
    have hL:((w.1.length:Nat):Int)≤255:=by have:=hwb.len;omega
    have e1:=uM (x:=((w.1.length:Nat):Int)) (Int.natCast_nonneg _) hL
    simp only[bl,List.map_cons,List.map_nil,e1]
    rw[show((w.1.length:Nat):Int)%256=((w.1.length:Nat):Int) from Int.emod_eq_of_lt (Int.natCast_nonneg _) (by omega)]
    rfl
   have e47:gU (l.take (i+1))=gU (l.take i)++dM w.2++mO (w.1.take j)++[46,b8 w.1.length]:=by
    rw[hsn,List.take_of_length_le (l:=w.1) (i:=j) (by omega)]
    simp[yF]
   rw[e47,fI,List.length_append (bs:=[46,_]),← e46]
   exact hS3
 ·rw[List.take_of_length_le (by omega)]at hv
  have hns:v.isStr=false:=by rcases hv with⟨rfl,_⟩|⟨_,_,rfl,_⟩<;>rfl
  repeat' first|apply ad|(apply gw;first|refine aq rv_ ?_|(refine aA rfl rfl rfl ?_ ?_<;>(intro hc;try (exfalso;omega))))|(apply gx;first|apply af|refine ae rfl ?_|apply aL|refine ah rfl ?_)|apply aa|apply aM|apply aN|apply aR
  refine lJ rfl hns (gg hv) ?_
  repeat' first|apply ad|refine aq (v:=AV.str _) rfl ?_|apply aJ|apply aa
  exact aH rfl rfl
end
end Go.Proofs.YtlnobeojgifojaaGreatDoor
