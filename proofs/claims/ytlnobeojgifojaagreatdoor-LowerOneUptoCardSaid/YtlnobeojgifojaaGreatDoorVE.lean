/- (*lower.maker).lay, state, amid, step. (*lower.maker).state. (*lower.maker).amid. -/
import Derived.Test.YtlnobeojgifojaaGreatDoorVD
set_option linter.unusedVariables false
set_option linter.unusedSimpArgs false
namespace Go.Proofs.YtlnobeojgifojaaGreatDoor
section
open Go
set_option maxHeartbeats 4000000
@[reducible] def tx (l:List Way):AV := .rd l.length (l.flatMap mf) false
@[reducible] def zx (l:List il):AV := .rd l.length (l.map li) false
@[reducible] def mkM (x:Dfa)(vR vN vT vW:AV)(imN imO:Nat):List AV:=[x.parts.mv Rw.sv,x.next.mv Rw.iv,x.tags.iv,vR,vN,vT,vW,.map imN,.map imO]
@[reducible] def dsM (D:List (List Int)):List (Nat×Nat×List AV):=D.map fun r=>(1,r.length,r.map (.int .i64))
@[reducible] def chM (c:cC)(iM imN imO:Nat)(x:Dfa)(Rs:List (List il))(vR vN vT vW:AV)(ws:List AV)(D:List (List Int))(T:List Int)(W:List (List Way))(eN eO:List (AV×AV)):List cC :=
 [uu vN [] ws (dsM D),c,ck iM (.cells 0 (mkM x vR vN vT vW imN imO)),cP vR 1 Rs.length (Rs.map zx),cP vT 1 T.length (T.map (.int .i64)),cP vW 1 W.length (W.map tx),ck imN (.map none eN),ck imO (.map (some .i64) eO)]
theorem aA.notMap {h:aa}{v:AV}{e n m:Nat}{cs:List AV}(hr:aA h v e n cs):v ≠ .map m:=by
 rintro rfl
 rcases hr with⟨h1,_⟩|⟨_,_,h1,_⟩<;>cases h1
theorem aA.cells_of {h:aa}{v:AV}{e n:Nat}{cs cs':List AV}{id g:Nat}(hr:aA h v e n cs)(hi:v.rowId=some id)(hg:h.get id=some (.cells g cs')):cs'=cs:=by
 rcases hr with⟨rfl,_⟩|⟨id',g',rfl,h1,_⟩
 ·cases hi
 ·cases hi
  rw[hg]at h1
  injection h1 with h1
  injection h1
theorem wA {F:bR}{r:List bA}{Q:Env→aa→Prop}{env:Env}{h:aa}{d f:Nat}{e:Bool}{l:List bl}{vs:List AV}(ha:l.map (ev env)=vs)(hv:vs.all (fun v => !v.isTup)=true)(k:F f vs h (fun v h'=>v8 e h h'∧aj F r Q (env.put d v) h')):aj F (⟨some d,.callk e f l,none⟩::r) Q env h:=by
 subst ha
 simp only[List.all_map,Function.comp_def]at hv
 simp only[bE,Af,bv]
 exact⟨hv,k⟩
theorem C3 {F:bR}{r:List bA}{Q:Env→aa→Prop}{env:Env}{h:aa}{d id off m:Nat}{x:bl}{cs:List AV}(hx:ev env x = .ptr id 0 off)(hg:h.get id=some (.cells 0 cs))(hm:cs[off]?=some (AV.map m))(k:aj F r Q (env.put d (.map m)) h):aj F (⟨some d,.loadm false x,none⟩::r) Q env h:=by
 have hl:=(List.getElem?_eq_some_iff.1 hm).1
 simp only[bE,Ae,aT,hx,hg]
 rw[if_pos ⟨trivial,(fun h:false=true=>trivial),hl⟩,List.getD_eq_getElem?_getD,hm]
 exact k
attribute [local irreducible] aj bc bj dn bz cn dz bL wop cq aU
set_option maxRecDepth 100000 in
theorem zL {Φ:Lib}(L:em Φ){h:aa}{c:cC}{iM imN imO:Nat}{x:Dfa}{Rs:List (List il)}{vR vN vT vW:AV}{ws:List AV}{D:List (List Int)}{T:List Int}{W:List (List Way)}{eN eO:List (AV×AV)}(hS:Sep h (chM c iM imN imO x Rs vR vN vT vW ws D T W eN eO))(l:List Way)(tag:Int)(hD:D.length=W.length)(hT:T.length=W.length)(hW:W.length≤1073741824)(hws:∀ w∈ws,∃ id g,w = .own id g 1 0 256 none) :
  aU Φ 278 [.ptr iM 0 0,tx l,.int .i64 tag] h (fun r h'=>(r = .int .i64 W.length∧EL h h')∧∃ (vN' vT' vW' w:AV),(∃ id g,w = .own id g 1 0 256 none)∧Sep h' (chM c iM imN imO x Rs vR vN' vT' vW' (ws++[w]) (D++[List.replicate 256 (-1)]) (T++[tag]) (W++[l]) eN eO)):=by
 have hM:h.get iM=some (.cells 0 (mkM x vR vN vT vW imN imO)):=hS.get (i:=2) rfl
 have hvW:aA h vW 1 W.length _:=hS.get (i:=5) rfl
 have hnW:=hvW.notTup
 refine bb (fun _=>false) rfl L.f278 ?_
 repeat' first|apply ad|(apply gw;first|refine ai rx_ ?_|(apply gq2;first|refine aC rx_ ?_|refine ak rfl hg_ HU b_ pv_ ?_)|(apply iA;first|refine bg rx_ ?_|refine bf rx_ ?_)|(apply lE;first|refine bX rx_ ?_|refine bW rx_ ?_|(refine br (m:=1) rx_ ir_ rfl rfl HT ?_;intro va hpa hra hka hria))|(apply gq4;first|refine aG rx_ ?_|refine aq rfl (Nat.zero_add _) ?_)|refine bi rfl ?_|refine bF (cs:=[AV.rd _ _ _]) rfl rfl ?_)|(apply gx;first|apply af|refine ae rfl ?_)|apply ac
 have hS1:=hS.upd 5 (cP va 1 (W.length+1) (W.map tx++[tx l])) rfl hra hka hria
 have hM1:hpa.get iM=some (.cells 0 (mkM x vR vN vT vW imN imO)):=hS1.get (i:=2) rfl
 refine cr (v:=va) (cs':=mkM x vR vN vT va imN imO) rfl rfl hra hM1 HU rfl ?_
 have hS2:=hS1.put 2 (.cells 0 (mkM x vR vN vT va imN imO)) rfl
 have hf1:∀ k,h.get k≠none→k≠iM→vW.rowId≠some k→(hpa.set iM (.cells 0 (mkM x vR vN vT va imN imO))).get k=h.get k:=fun k hk h1 h2=>(aa.get_set_ne _ _ h1).trans (hka k hk h2)
 generalize hpa.set iM (.cells 0 (mkM x vR vN vT va imN imO))=h1 at hS2 hf1 ⊢
 clear hS1 hM1 hra hka hria
 obtain⟨vW2,rfl⟩:∃ y,y=va:=⟨_,rfl⟩
 have hM1:h1.get iM=some (.cells 0 (mkM x vR vN vT vW2 imN imO)):=hS2.get (i:=2) rfl
 have hN1:fY h1 vN [] ws (dsM D):=hS2.get (i:=0) rfl
 have hvN1:=hN1.out
 simp only[List.length_nil,Nat.zero_add,List.nil_append]at hvN1
 have hnN:=hvN1.notTup
 have hwl:ws.length=D.length:=by rw[hN1.fam.len,List.length_map]
 repeat' first|apply ad|(apply gw;first|refine ai rx_ ?_|(apply gq2;first|refine aC rx_ ?_|refine ak rfl hg_ HU b_ pv_ ?_)|(apply gq4;first|refine aG rx_ ?_|refine aq rfl (Nat.zero_add _) ?_|refine aq rfl rfl ?_)|refine bi rfl ?_|refine bF (cs:=[AV.int _ _]) rfl rfl ?_)|(apply gx;first|apply af|refine ae rfl ?_)|apply ac
 refine wA rfl HU ?_
 refine aU.mono Φ _ _ _ _ _ ?_ (BI L (-1) true)
 rintro _ h2 ⟨iw,rfl,hiw,rfl⟩
 refine⟨?_,?_⟩
 ·unfold v8
  rw[if_pos rfl]
  exact fun k o e=>(aa.get_set_ne _ _ fun e2=>by rw[e2,hiw]at e;cases e).trans e
 have hS3:=(hS2.rowF (id:=iw) (n:=256) (rs:=List.replicate 256 (AV.int .i64 (-1))) hiw List.length_replicate).perm (.swap _ _ _)
 have hf2:∀ k,h1.get k≠none→(h1.set iw (.cells 1 (List.replicate 256 (AV.int .i64 (-1))))).get k=h1.get k:=fun k hk=>aa.get_set_ne _ _ fun e=>hk (e ▸ hiw)
 generalize h1.set iw (.cells 1 (List.replicate 256 (AV.int .i64 (-1))))=h2 at hS3 hf2 ⊢
 have hN2:fY h2 vN [] ws (dsM D):=hS3.get (i:=0) rfl
 have hvN:=hN2.out
 simp only[List.length_nil,Nat.zero_add,List.nil_append]at hvN
 clear hN1 hvN1
 repeat' first|(apply gw;first|(apply iA;first|refine bg rx_ ?_|refine bf rx_ ?_)|(apply lE;first|refine bX rx_ ?_|refine bW rx_ ?_|(refine br (m:=1) rx_ ir_ rfl rfl HT ?_;intro va hpa hra hka hria))|(apply gq4;first|refine aG rx_ ?_|refine aq rfl (Nat.zero_add _) ?_|refine aq rfl rfl ?_)|refine bi rfl ?_|refine bF (cs:=[AV.own _ _ _ _ _ _]) rfl rfl ?_)
 have hS4:=hS3.nmoreRow hra hka hria
 have hM2:hpa.get iM=some (.cells 0 (mkM x vR vN vT vW2 imN imO)):=hS4.get (i:=2) rfl
 refine cr (v:=va) (cs':=mkM x vR va vT vW2 imN imO) rfl rfl hra hM2 HU rfl ?_
 have hS5:=hS4.put 2 (.cells 0 (mkM x vR va vT vW2 imN imO)) rfl
 have hf3:∀ k,h2.get k≠none→k≠iM→vN.rowId≠some k→(hpa.set iM (.cells 0 (mkM x vR va vT vW2 imN imO))).get k=h2.get k:=fun k hk h1 h2=>(aa.get_set_ne _ _ h1).trans (hka k hk h2)
 generalize hpa.set iM (.cells 0 (mkM x vR va vT vW2 imN imO))=h3 at hS5 hf3 ⊢
 clear hS4 hM2 hra hka hria hS3 hS2 hM1 hvN hN2
 obtain⟨vN2,rfl⟩:∃ y,y=va:=⟨_,rfl⟩
 have hM1:h3.get iM=some (.cells 0 (mkM x vR vN2 vT vW2 imN imO)):=hS5.get (i:=2) rfl
 have hvT:aA h3 vT 1 T.length _:=hS5.get (i:=4) rfl
 have hnT:=hvT.notTup
 repeat' first|apply ad|(apply gw;first|refine ai rx_ ?_|(apply gq2;first|refine aC rx_ ?_|refine ak rfl hg_ HU b_ pv_ ?_)|(apply iA;first|refine bg rx_ ?_|refine bf rx_ ?_)|(apply lE;first|refine bX rx_ ?_|refine bW rx_ ?_|(refine br (m:=1) rx_ ir_ rfl rfl HT ?_;intro va hpa hra hka hria))|(apply gq4;first|refine aG rx_ ?_|refine aq rfl (Nat.zero_add _) ?_|refine aq rfl rfl ?_)|refine bi rfl ?_|refine bF (cs:=[AV.int _ _]) rfl rfl ?_)|(apply gx;first|apply af|refine ae rfl ?_)|apply ac
 have hS6:=hS5.upd 4 (cP va 1 (T.length+1) (T.map (.int .i64)++[.int .i64 tag])) rfl hra hka hria
 have hM2:hpa.get iM=some (.cells 0 (mkM x vR vN2 vT vW2 imN imO)):=hS6.get (i:=2) rfl
 refine cr (v:=va) (cs':=mkM x vR vN2 va vW2 imN imO) rfl rfl hra hM2 HU rfl ?_
 have hS7:=hS6.put 2 (.cells 0 (mkM x vR vN2 va vW2 imN imO)) rfl
 have hf4:∀ k,h3.get k≠none→k≠iM→vT.rowId≠some k→(hpa.set iM (.cells 0 (mkM x vR vN2 va vW2 imN imO))).get k=h3.get k:=fun k hk h1 h2=>(aa.get_set_ne _ _ h1).trans (hka k hk h2)
 generalize hpa.set iM (.cells 0 (mkM x vR vN2 va vW2 imN imO))=h4 at hS7 hf4 ⊢
 clear hS6 hM2 hra hka hria hS5 hM1 hvT
 obtain⟨vT2,rfl⟩:∃ y,y=va:=⟨_,rfl⟩
 have hM1:h4.get iM=some (.cells 0 (mkM x vR vN2 vT2 vW2 imN imO)):=hS7.get (i:=2) rfl
 have hvW2:aA h4 vW2 1 (W.length+1) _:=hS7.get (i:=5) rfl
 repeat' first|apply ad|(apply gw;first|refine ai rx_ ?_|(apply gq2;first|refine aC rx_ ?_|refine ak rfl hg_ HU b_ pv_ ?_)|(apply gq3;first|refine az rx_ ?_|refine iq rfl rfl rfl HT HT ?_)|(apply gq6;first|refine bM rx_ ?_|refine eP rx_ (by assumption) ?_)|(apply gq4;first|refine aG rx_ ?_|refine aq rfl (Nat.zero_add _) ?_)|refine bi rfl ?_)|(apply gx;first|apply af|refine ae rfl ?_|apply aM)|apply ac
 refine aH rfl ⟨⟨?_,?_⟩,vN2,vT2,vW2,_,⟨iw,1,rfl⟩,?_⟩
 ·exact congrArg (AV.int .i64) HT
 ·intro id g cs off m hid hm
  by_cases hk1:id=iM
  ·subst hk1
   rw[hM]at hid
   injection hid with hid
   injection hid with e1 e2
   subst e1 e2
   refine⟨_,hM1,?_⟩
   have hlt:=(List.getElem?_eq_some_iff.1 hm).1
   have hlt2:off<9:=hlt
   have q3:aA h vR 1 Rs.length _:=hS.get (i:=3) rfl
   have q4:fY h vN [] ws (dsM D):=hS.get (i:=0) rfl
   have q5:aA h vT 1 T.length _:=hS.get (i:=4) rfl
   have q6:aA h vW 1 W.length _:=hS.get (i:=5) rfl
   have hc:off=0∨off=1∨off=2∨off=3∨off=4∨off=5∨off=6∨off=7∨off=8:=by omega
   rcases hc with rfl|rfl|rfl|rfl|rfl|rfl|rfl|rfl|rfl
   ·cases hm
   ·cases hm
   ·cases hm
   ·injection hm with hm;exact(q3.notMap hm).elim
   ·injection hm with hm;exact(q4.out.notMap hm).elim
   ·injection hm with hm;exact(q5.notMap hm).elim
   ·injection hm with hm;exact(q6.notMap hm).elim
   ·exact hm
   ·exact hm
  ·have hne:h.get id≠none:=by rw[hid];simp
   have q4:fY h vN [] ws (dsM D):=hS.get (i:=0) rfl
   have q5:aA h vT 1 T.length _:=hS.get (i:=4) rfl
   have q6:aA h vW 1 W.length _:=hS.get (i:=5) rfl
   have hkW:vW.rowId≠some id:=fun e=>by
    have e2:=q6.cells_of e hid
    rw[e2,List.getElem?_map,Option.map_eq_some_iff]at hm
    obtain⟨_,_,hm⟩:=hm
    cases hm
   have hkN:vN.rowId≠some id:=fun e=>by
    have e2:=q4.out.cells_of e hid
    rw[e2,List.nil_append]at hm
    obtain⟨_,_,hm⟩:=hws _ (List.mem_of_getElem? hm)
    cases hm
   have hkT:vT.rowId≠some id:=fun e=>by
    have e2:=q5.cells_of e hid
    rw[e2,List.getElem?_map,Option.map_eq_some_iff]at hm
    obtain⟨_,_,hm⟩:=hm
    cases hm
   have g1:=hf1 id hne hk1 hkW
   have g2:=hf2 id (by rw[g1];exact hne)
   have g3:=hf3 id (by rw[g2,g1];exact hne) hk1 hkN
   have g4:=hf4 id (by rw[g3,g2,g1];exact hne) hk1 hkT
   exact⟨cs,by rw[g4,g3,g2,g1];exact hid,hm⟩
 ·have e1:dsM (D++[List.replicate 256 (-1)])=dsM D++[(1,256,List.replicate 256 (AV.int .i64 (-1)))]:=by
   rw[dsM,List.map_append,List.map_singleton,List.length_replicate,List.map_replicate]
  unfold chM
  rw[e1,List.length_append,List.length_append,List.map_append,List.map_append]
  exact hS7
end
section
open Go
set_option maxHeartbeats 4000000
def fN (a:RSt):Option AV:=if a.1<0 then some (.str (fU a.2)) else none
def fO (a:RSt):Option AV:=if a.1<0 then none else some (.int .i64 a.1)
structure OkR (d:PD)(a:RSt):Prop where
 inr:InR d a
 wb:∀ w∈eK d a,zn w∧w.1≠[]
 len:(eK d a).length≤4194304
theorem yZ {d:PD}{a b:RSt}(ha:InR d a)(hb:InR d b){key:AV}(h1:fO a=some key)(h2:fO b=some key):b=a:=by
 unfold fO at h1 h2
 split at h1
 ·cases h1
 ·split at h2
  ·cases h2
  ·injection h1 with h1
   injection h2 with h2
   have e:=h1.trans h2.symm
   injection e with _ e
   rcases ha with⟨_,a2⟩|⟨a1,_⟩
   ·rcases hb with⟨_,b2⟩|⟨b1,_⟩
    ·exact Prod.ext e.symm (b2.trans a2.symm)
    ·omega
   ·omega
theorem DZ {d:PD}{a b:RSt}(ha:OkR d a)(hb:OkR d b){key:AV}(h1:fN a=some key)(h2:fN b=some key):b=a:=by
 unfold fN at h1 h2
 split at h1
 ·rename_i ha0
  split at h2
  ·rename_i hb0
   injection h1 with h1
   injection h2 with h2
   have e:=h1.trans h2.symm
   injection e with e
   have a1:a.1 = -1:=by
    rcases ha.inr with⟨⟨q,_⟩,_⟩|⟨q,_⟩<;>omega
   have b1:b.1 = -1:=by
    rcases hb.inr with⟨⟨q,_⟩,_⟩|⟨q,_⟩<;>omega
   have wa:=ha.wb
   have wb:=hb.wb
   unfold eK at wa wb
   rw[if_pos ha0]at wa
   rw[if_pos hb0]at wb
   exact Prod.ext (b1.trans a1.symm) (t8 (fun w hw=>(wb w hw).1) (fun w hw=>(wa w hw).1) e.symm)
  ·cases h2
 ·cases h1
theorem q9 {α:Type}[DecidableEq α]{L:List α}{a:α}(h:a∈L):cv L (some a)=L:=by
 show(if a∈L then L else L++[a])=L
 rw[if_pos h]
theorem nW {α:Type}[DecidableEq α]{L:List α}{a:α}(h:a∉L):cv L (some a)=L++[a]:=by
 show(if a∈L then L else L++[a])=_
 rw[if_neg h]
theorem rR {α:Type}[DecidableEq α]{L:List α}{a:α}(h:a∉L):fS (L++[a]) (some a)=(L.length:Nat):=by
 show(((L++[a]).idxOf a:Nat):Int)=_
 rw[List.idxOf_append,if_neg h]
 simp
theorem CB {α:Type}[DecidableEq α]{f:α→Option AV}{a:α}{key:AV}(ha:f a=some key){A:List α}(hn:a∉A)(h:∀ b∈A,f b=some key→b=a):gu (f4 f 0 (A++[a])) key=some (.int .i64 (A.length:Nat)):=by
 rw[la ha (A++[a]) 0 fun b hb e=>by
  rcases List.mem_append.1 hb with hb|hb
  ·exact h b hb e
  ·simpa using hb]
 rw[if_pos HU,List.idxOf_append,if_neg hn]
 simp
@[reducible] def qg (w:AV):Prop:=∃ id g,w = .own id g 1 0 256 none
@[reducible] def chA (c:cC)(iM imN imO:Nat)(x:Dfa)(Rs:List (List il))(vR vN vT vW:AV)(ws:List AV)(D:List (List Int))(d:PD)(A:List RSt):List cC :=
 chM c iM imN imO x Rs vR vN vT vW ws D (A.map (oE d)) (A.map (eK d)) (f4 fN 0 A) (f4 fO 0 A)
def jl (D:List (List Int))(n m:Nat):List (List Int):=D++List.replicate (m-n) (List.replicate 256 (-1))
def ml (p:List am×Int):List Way:=if p.2 = -1 then [] else(cO p.1).map fun r=>(r,p.2)
theorem wk (parts:List (List am))(next:List Int):dO parts next=(parts.zip next).flatMap ml:=rfl
theorem Aj {l:List (List am×Int)}{k:Nat}{p:List am×Int}(h:l[k]?=some p):(l.take (k+1)).flatMap ml=(l.take k).flatMap ml++ml p:=by
 rw[aX h,List.flatMap_append]
 simp
attribute [local irreducible] aj bc bj dn bz cn dz bL wop cq aU
set_option maxRecDepth 100000 in
theorem tI {Φ:Lib}(L:em Φ){h:aa}{c:cC}{iM imN imO:Nat}{x:Dfa}{vR vN vT vW:AV}{ws:List AV}{D:List (List Int)}{d:PD}{A:List RSt}(hd:d.Ok)(hx:x.plain=d)(hS:Sep h (chA c iM imN imO x (d.parts.map cO) vR vN vT vW ws D d A))(hA:∀ a∈A,OkR d a)(hD:D.length=A.length)(hAl:A.length≤1073741824)(hws:∀ w∈ws,qg w)(i:Int)(hi:In d.n i)(hR:OkR d (i,[])) :
  aU Φ 268 [.ptr iM 0 0,.int .i64 i] h (fun r h'=>r = .int .i64 (fS (cv A (some (i,[]))) (some (i,[])))∧∃ (vN' vT' vW':AV) (ws':List AV),(∀ w∈ws',qg w)∧Sep h' (chA c iM imN imO x (d.parts.map cO) vR vN' vT' vW' ws' (jl D A.length (cv A (some (i,[]))).length) d (cv A (some (i,[]))))):=by
 have hM:h.get iM=some (.cells 0 (mkM x vR vN vT vW imN imO)):=hS.get (i:=2) rfl
 have hO:h.get imO=some (.map (some .i64) (f4 fO 0 A)):=hS.get (i:=7) rfl
 have hi0:=hi.1
 have hi1:=hi.2
 obtain⟨q,rfl⟩:∃ q:Nat,i=(q:Int):=⟨i.toNat,by omega⟩
 have htl:x.tags.l.length=d.n:=by rw[← hx];rfl
 have hnl:x.next.l.length=d.n:=by rw[← hd.nl,← hx];simp[Dfa.plain,cR]
 have hfO:fO ((q:Int),[])=some (.int .i64 q):=by unfold fO;rw[if_neg (by simp only;omega)]
 have hlk:=la hfO A 0 fun b hb e=>yZ hR.inr (hA b hb).inr hfO e
 refine bb (fun o=>o == some 59) rfl L.f268 ?_
 repeat' first|apply ad|(apply gw;first|refine ai rx_ ?_|(apply gq2;first|refine aC rx_ ?_|refine ak rfl hg_ HU b_ pv_ ?_)|(apply gq4;first|refine aG rx_ ?_|refine aq rfl (Nat.zero_add _) ?_)|refine bi rfl ?_)|(apply gx;first|apply af|refine ae rfl ?_)|apply ac
 refine gV (key:=AV.int .i64 q) rfl rfl rfl hO ?_
 rw[hlk]
 by_cases hmem:(((q:Int),[]):RSt)∈A
 ·rw[if_pos hmem]
  have hv:cv A (some (((q:Int),[]):RSt))=A:=q9 hmem
  rw[hv]
  repeat' first|apply ad|(apply gw;first|refine ai rx_ ?_|refine bY rfl rfl ?_)|(apply gx;first|apply af|refine ae rfl ?_|apply aM|refine al rfl ?_)|apply ac|apply cz
  refine aH rfl ⟨?_,vN,vT,vW,ws,hws,?_⟩
  ·rw[Nat.zero_add];rfl
  ·rw[jl,Nat.sub_self,List.replicate_zero,List.append_nil];exact hS
 ·rw[if_neg hmem]
  have hv:cv A (some (((q:Int),[]):RSt))=A++[((q:Int),[])]:=nW hmem
  rw[hv]
  obtain⟨r,hr⟩:=aK (l:=x.next.l) (i:=q) (by rw[hnl];omega)
  have hrl:r.l=d.row q:=by rw[← hx];simp[PD.row,Dfa.plain,cR,hr]
  have hrk:r.l.length=d.parts.length:=by rw[hrl];exact hd.tab.len q hi
  have hp2:d.parts.length≤2000:=hd.p1
  have hz:(d.parts.zip r.l).length=r.l.length:=by rw[List.length_zip];omega
  have hwl:(eK d ((q:Int),[]))=(d.parts.zip r.l).flatMap ml:=by
   rw[hrl,← wk]
   unfold eK
   rw[if_neg (by simp only;omega)]
  have hlen:=hR.len
  rw[hwl]at hlen
  have hlk2:∀ k,((d.parts.zip r.l).take k).flatMap ml <+: (d.parts.zip r.l).flatMap ml:=fun k=>by
   conv=>rhs;rw[← List.take_append_drop k (d.parts.zip r.l),List.flatMap_append]
   exact List.prefix_append _ _
  repeat' first|apply ad|(apply gw;first|refine ai rx_ ?_|(apply gq2;first|refine aC rx_ ?_|refine aI rfl b_ pv_ ?_|refine ak rfl hg_ HU b_ pv_ ?_)|(apply gq5;first|refine aO rx_ ?_|refine aS rx_ ?_|refine ar rfl rfl hr HT rfl ?_)|(apply gq6;first|refine bM rx_ ?_|refine aD rfl ?_)|(apply gq4;first|refine aG rx_ ?_|refine aq rfl (Nat.zero_add _) ?_)|refine bi rfl ?_|refine bY rfl rfl ?_)|(apply gx;first|apply af|refine ae rfl ?_|apply ay|apply au|refine ah rfl ?_)|apply ac
  refine cl r.l.length (fun k env h'=>∃ v,Sep h' (chA c iM imN imO x (d.parts.map cO) vR vN vT vW ws D d A++[cP v 2 (((d.parts.zip r.l).take k).flatMap ml).length ((((d.parts.zip r.l).take k).flatMap ml).flatMap mf)])∧env.has [(0,.ptr iM 0 0),(1,.int .i64 q),(7,v),(30,r.iv),(31,.int .i64 r.l.length),(32,.int .i64 k)]) ⟨_,hS.nil 2,hh_⟩ ?_
  clear hS hM hO
  rintro k env h' hk ⟨v,hS,he⟩
  obtain⟨env,rfl⟩:=he.ex
  clear he
  have hM:h'.get iM=some (.cells 0 (mkM x vR vN vT vW imN imO)):=hS.get (i:=2) rfl
  have hvR:aA h' vR 1 (d.parts.map cO).length _:=hS.get (i:=3) rfl
  have hv:aA h' v 2 _ _:=hS.get (i:=8) rfl
  have hnt:=hv.notTup
  by_cases hk2:k<r.l.length
  ·obtain⟨to,hto⟩:=aK hk2
   obtain⟨p,hp⟩:=aK (l:=d.parts) (i:=k) HT
   have hzk:(d.parts.zip r.l)[k]?=some (p,to):=List.getElem?_zip_eq_some.2 ⟨hp,hto⟩
   have hsn:=Aj hzk
   have hRk:(d.parts.map cO)[k]?=some (cO p):=by rw[List.getElem?_map,hp];rfl
   have hpre:=(hlk2 (k+1)).length_le
   rw[hsn,List.length_append]at hpre
   by_cases hto1:to = -1
   ·subst hto1
    have hwf:ml (p,-1)=[]:=by unfold ml;rw[if_pos rfl]
    rw[hwf,List.append_nil]at hsn
    repeat' first|apply ad|(apply gw;first|refine ai rx_ ?_|(apply gq2;first|refine aC rx_ ?_|refine aI rfl b_ pv_ ?_)|(apply gq3;first|refine az rx_ ?_|refine aN rx_ ?_|refine a8 rfl rfl rfl HT HT ?_|((first|refine aB rfl rfl rfl ?_ ?_|refine dD rfl rfl rfl ?_ ?_)<;>(intro hc;try omega)))|(apply gq5;first|refine aO rx_ ?_|refine aS rx_ ?_|refine ar rfl rfl hto HT rfl ?_))|(apply gx;first|apply af|refine ae rfl ?_|apply ay|apply au|apply aP|refine al rfl ?_)|apply ac|apply aQ|apply aR
    refine aW hk2 ⟨v,?_,hh_⟩
    rw[hsn]
    exact hS
   ·have hwf:ml (p,to)=(cO p).map fun r=>(r,to):=by unfold ml;rw[if_neg hto1]
    rw[hwf]at hsn hpre
    rw[List.length_map]at hpre
    have hnR:=hvR.notTup
    have hRl:(d.parts.map cO).length=d.parts.length:=List.length_map _
    repeat' first|apply ad|(apply gw;first|refine ai rx_ ?_|(apply gq2;first|refine aC rx_ ?_|refine dP (g:=_) rfl hg_ hRk eq_ ?_|refine aI rfl b_ pv_ ?_|refine ak rfl hg_ HU b_ pv_ ?_)|(apply gq3;first|refine az rx_ ?_|refine aN rx_ ?_|((first|refine aB rfl rfl rfl ?_ ?_|refine dD rfl rfl rfl ?_ ?_)<;>(intro hc;try omega)))|(apply gq5;first|refine aO rx_ ?_|refine aS rx_ ?_|refine ar rfl rfl hto HT rfl ?_|(refine cM rx_ (by assumption) rfl HT HT ?_;intro ir gr hvr hgr hgp;have hner:=aa.ne_of hgr;have hner2:=aa.ne_of2 hgr))|(apply gq6;first|refine bM rx_ ?_|refine aD rfl ?_)|(apply gq4;first|refine aG rx_ ?_|refine aq rfl (Nat.zero_add _) ?_)|refine bi rfl ?_)|(apply gx;first|apply af|refine ae rfl ?_|apply ay|apply au|refine al rfl ?_|refine ah rfl ?_)|apply ac
    generalize ((d.parts.zip r.l).take k).flatMap ml=lk at *
    refine cl (cO p).length (fun j env h'=>∃ v,Sep h' (chA c iM imN imO x (d.parts.map cO) vR vN vT vW ws D d A++[cP v 2 (lk++((cO p).take j).map fun r=>(r,to)).length ((lk++((cO p).take j).map fun r=>(r,to)).flatMap mf)])∧env.has [(0,.ptr iM 0 0),(1,.int .i64 q),(7,v),(9,.int .i64 to),(30,r.iv),(31,.int .i64 r.l.length),(32,.int .i64 k),(45,zx (cO p)),(46,.int .i64 (cO p).length),(47,.int .i64 j)]) ⟨v,by rw[List.take_zero,List.map_nil,List.append_nil];exact hS,hh_⟩ ?_
    clear hS hM hvR hv hnt hnR hvr hgr hgp hner hner2
    rintro j env h' hj ⟨v,hS,he⟩
    obtain⟨env,rfl⟩:=he.ex
    clear he
    have hv:aA h' v 2 _ _:=hS.get (i:=8) rfl
    have hnt:=hv.notTup
    have hjl:(lk++((cO p).take j).map fun r=>(r,to)).length=lk.length+j:=by rw[List.length_append,List.length_map,List.length_take];omega
    by_cases hj2:j<(cO p).length
    ·obtain⟨rw_,hrw⟩:=aK hj2
     rw[hjl]at hv
     repeat' first|apply ad|(apply gw;first|refine ai rx_ ?_|(apply gq2;first|refine aC rx_ ?_|refine aI rfl b_ pv_ ?_)|(apply gq3;first|refine az rx_ ?_|refine aN rx_ ?_|refine a8 rfl rfl rfl HT HT ?_|(refine aB rfl rfl rfl ?_ ?_<;>(intro hc;try omega)))|(apply gq5;first|refine aO rx_ ?_|refine aS rx_ ?_|refine ar rfl rfl hrw HT rfl ?_)|(apply lE;first|refine bX rx_ ?_|refine bW rx_ ?_|(refine br (m:=1) rx_ ir_ rfl rfl HT ?_;intro va hpa hra hka hria))|refine dE rfl ?_|refine bF rfl rfl ?_)|(apply gx;first|apply af|refine ae rfl ?_|apply ay|apply au|refine al rfl ?_)|apply ac|apply aJ
     have hS1:=hS.upd 8 (cP va 2 (lk.length+j+1) (((lk++((cO p).take j).map fun r=>(r,to)).flatMap mf)++mf (rw_,to))) rfl hra (by rw[← hjl]at *;exact hka) hria
     refine aW hj2 ⟨va,?_,hh_⟩
     rw[aX hrw,List.map_append,← List.append_assoc,List.length_append,hjl,List.flatMap_append]
     simpa using hS1
    ·repeat' first|apply ad|(apply gw;first|refine ai rx_ ?_|(apply gq3;first|refine az rx_ ?_|refine aN rx_ ?_|refine a8 rfl rfl rfl HT HT ?_|(refine aB rfl rfl rfl ?_ ?_<;>(intro hc;try omega))))|(apply gx;first|apply af|refine ae rfl ?_|apply aP|refine ah rfl ?_)|apply ac|apply aQ|apply aJ|apply aR|apply ba
     rw[List.take_of_length_le HT]at hS
     refine aW hk2 ⟨v,?_,hh_⟩
     rw[hsn]
     exact hS
  ·have hpre:=hlk2 k
   rw[List.take_of_length_le HT]at hS hv
   rw[← hwl]at hS hv hlen
   repeat' first|apply ad|(apply gq3;first|refine az rx_ ?_|refine aN rx_ ?_|(refine aB rfl rfl rfl ?_ ?_<;>(intro hc;try omega)))|(apply gx;first|apply af|refine ae rfl ?_|apply aP|refine ah rfl ?_)|apply ac|apply aQ|apply aR|apply ba
   refine jn 7 (v:=v) rfl rfl hv ?_
   intro h2 hk2
   have hS2:=hS.drop 8 (h':=h2) rfl hk2
   clear hS hM hvR hv hnt hk2
   have hM:h2.get iM=some (.cells 0 (mkM x vR vN vT vW imN imO)):=hS2.get (i:=2) rfl
   obtain⟨t,ht⟩:=aK (l:=x.tags.l) (i:=q) (by rw[htl];omega)
   have htag:oE d ((q:Int),[])=t:=by
    unfold oE
    rw[if_neg (by simp only;omega),← hx]
    simp[PD.tag,Dfa.plain,ht]
   repeat' first|(apply gw;first|refine ai rx_ ?_|(apply gq4;first|refine aG rx_ ?_|refine aq rfl (Nat.zero_add _) ?_)|refine bi rfl ?_)
   refine C3 (off:=8) rfl hM rfl ?_
   repeat' first|(apply gw;first|refine ai rx_ ?_|(apply gq2;first|refine aC rx_ ?_|refine aI rfl b_ pv_ ?_|refine ak rfl hg_ HU b_ pv_ ?_)|(apply gq5;first|refine aO rx_ ?_|refine aS rx_ ?_|refine ar rfl rfl ht HT rfl ?_)|(apply gq4;first|refine aG rx_ ?_|refine aq rfl (Nat.zero_add _) ?_)|refine bi rfl ?_)
   refine wA rfl HU ?_
   refine aU.mono Φ _ _ _ _ _ ?_ (zL L hS2 (eK d ((q:Int),[])) t (by simpa using hD) HU (by simpa using hAl) hws)
   rintro _ h3 ⟨⟨rfl,hkm⟩,vN2,vT2,vW2,w,hw,hS3⟩
   refine⟨by unfold v8;rw[if_neg (by decide)];exact hkm,?_⟩
   rw[List.length_map]
   have hO3:h3.get imO=some (.map (some .i64) (f4 fO 0 A)):=hS3.get (i:=7) rfl
   skip
   refine fQ (key:=AV.int .i64 q) (v:=AV.int .i64 A.length) rfl rfl rfl rfl rfl hO3 ?_
   have he2:=ou hfO A 0 (fun b hb e=>hmem (by rw[← yZ hR.inr (hA b hb).inr hfO e];exact hb))
   rw[Nat.zero_add]at he2
   rw[he2]
   have hS4:=hS3.put 7 (.map (some .i64) (f4 fO 0 (A++[((q:Int),[])]))) rfl
   generalize h3.set imO _=h4 at hS4 ⊢
   have hM4:h4.get iM=some (.cells 0 (mkM x vR vN2 vT2 vW2 imN imO)):=hS4.get (i:=2) rfl
   have hO4:h4.get imO=some (.map (some .i64) (f4 fO 0 (A++[((q:Int),[])]))):=hS4.get (i:=7) rfl
   clear hS3 hO3 hS2 hM hkm
   have hlk3:=CB hfO (A:=A) hmem fun b hb e=>yZ hR.inr (hA b hb).inr hfO e
   repeat' first|apply ad|(apply gw;first|refine ai rx_ ?_|(apply gq2;first|refine aC rx_ ?_|refine ak rfl hg_ HU b_ pv_ ?_)|(apply gq4;first|refine aG rx_ ?_|refine aq rfl (Nat.zero_add _) ?_)|refine bi rfl ?_)|(apply gx;first|apply af|refine ae rfl ?_)|apply ac
   refine tJ (key:=AV.int .i64 q) rfl rfl rfl hO4 ?_
   rw[hlk3]
   repeat' first|apply ad|refine ai rx_ ?_|apply aM|apply ac
   refine aH rfl ⟨?_,vN2,vT2,vW2,ws++[w],?_,?_⟩
   ·rw[rR hmem];rfl
   ·intro y hy
    rcases List.mem_append.1 hy with hy|hy
    ·exact hws y hy
    ·simp only[List.mem_singleton]at hy;subst hy;exact hw
   ·have e1:jl D A.length (A++[((q:Int),[])]).length=D++[List.replicate 256 (-1)]:=by
     rw[jl,List.length_append,List.length_singleton,Nat.add_sub_cancel_left,List.replicate_one]
    unfold chA
    rw[e1,List.map_append,List.map_append,List.map_singleton,List.map_singleton,htag,ol fN _ A 0 (by unfold fN;rw[if_neg (by simp only;omega)])]
    exact hS4
end
section
open Go
set_option maxHeartbeats 4000000
attribute [local irreducible] aj bc bj dn bz cn dz bL wop cq aU
set_option maxRecDepth 100000 in
theorem EG {Φ:Lib}(L:em Φ)(L3:cZ Φ){h:aa}{c:cC}{iM imN imO:Nat}{x:Dfa}{Rs:List (List il)}{vR vN vT vW:AV}{ws:List AV}{D:List (List Int)}{d:PD}{A:List RSt}(hS:Sep h (chA c iM imN imO x Rs vR vN vT vW ws D d A))(hA:∀ a∈A,OkR d a)(hD:D.length=A.length)(hAl:A.length≤1073741824)(hws:∀ w∈ws,qg w)(l:List Way)(hR:OkR d (-1,l)) :
  aU Φ 279 [.ptr iM 0 0,tx l] h (fun r h'=>r = .int .i64 (fS (cv A (some (-1,l))) (some (-1,l)))∧∃ (vN' vT' vW':AV) (ws':List AV),(∀ w∈ws',qg w)∧Sep h' (chA c iM imN imO x Rs vR vN' vT' vW' ws' (jl D A.length (cv A (some (-1,l))).length) d (cv A (some (-1,l))))):=by
 have hM:h.get iM=some (.cells 0 (mkM x vR vN vT vW imN imO)):=hS.get (i:=2) rfl
 have hN:h.get imN=some (.map none (f4 fN 0 A)):=hS.get (i:=6) rfl
 have hfN:fN (-1,l)=some (.str (fU l)):=by unfold fN;rw[if_pos (by simp only;omega)]
 have hwy:eK d (-1,l)=l:=by unfold eK;rw[if_pos (by simp only;omega)]
 have hty:oE d (-1,l) = -1:=by unfold oE;rw[if_pos (by simp only;omega)]
 have hlen:=hR.len
 have hwb:=hR.wb
 rw[hwy]at hlen hwb
 have hlk:=la hfN A 0 fun b hb e=>DZ hR (hA b hb) hfN e
 have hnm:=Fm L L3 l false hlen (fun w hw=>(hwb w hw).1)
 refine bb (fun o=>false) rfl L.f279 ?_
 repeat' first|apply ad|(apply gw;first|refine ai rx_ ?_|(apply gq2;first|refine aC rx_ ?_|refine ak rfl hg_ HU b_ pv_ ?_)|(apply gq4;first|refine aG rx_ ?_|refine aq rfl (Nat.zero_add _) ?_)|refine bi rfl ?_|refine aL rfl nt_ ?_)|(apply gx;first|apply af|refine ae rfl ?_)|apply ac|refine bu (by assumption) fz_ fz_ ?_
 refine gV (key:=AV.str (fU l)) rfl rfl rfl hN ?_
 rw[hlk]
 by_cases hmem:((-1,l):RSt)∈A
 ·rw[if_pos hmem]
  rw[q9 hmem]
  repeat' first|apply ad|(apply gw;first|refine ai rx_ ?_|refine dm (b:=true) rfl ?_|refine bY rfl rfl ?_)|(apply gx;first|apply af|refine ae rfl ?_|apply ay|apply aM|refine ah rfl ?_)|apply ac
  refine aH rfl ⟨?_,vN,vT,vW,ws,hws,?_⟩
  ·rw[Nat.zero_add];rfl
  ·rw[jl,Nat.sub_self,List.replicate_zero,List.append_nil];exact hS
 ·rw[if_neg hmem]
  rw[nW hmem]
  repeat' first|apply ad|(apply gw;first|refine ai rx_ ?_|refine aL rfl nt_ ?_|refine dm (b:=false) rfl ?_|refine bY rfl rfl ?_)|(apply gx;first|apply af|refine ae rfl ?_|refine al rfl ?_)|apply ac
  refine bS (zL L hS l (-1) (by simpa using hD) HU (by simpa using hAl) hws) ?_
  rintro _ h3 ⟨⟨rfl,hkm⟩,vN2,vT2,vW2,w,hw,hS3⟩
  rw[List.length_map]
  have hM3:h3.get iM=some (.cells 0 (mkM x vR vN2 vT2 vW2 imN imO)):=hS3.get (i:=2) rfl
  have hN3:h3.get imN=some (.map none (f4 fN 0 A)):=hS3.get (i:=6) rfl
  repeat' first|apply ad|(apply gw;first|refine ai rx_ ?_|(apply gq2;first|refine aC rx_ ?_|refine ak rfl hg_ HU b_ pv_ ?_)|(apply gq4;first|refine aG rx_ ?_|refine aq rfl (Nat.zero_add _) ?_)|refine bi rfl ?_)|refine ae rfl ?_|apply ac
  refine fQ (key:=AV.str (fU l)) (v:=AV.int .i64 A.length) rfl rfl rfl rfl rfl hN3 ?_
  have he2:=ou hfN A 0 (fun b hb e=>hmem (by rw[← DZ hR (hA b hb) hfN e];exact hb))
  rw[Nat.zero_add]at he2
  rw[he2]
  have hS4:=hS3.put 6 (.map none (f4 fN 0 (A++[(-1,l)]))) rfl
  generalize h3.set imN _=h4 at hS4 ⊢
  repeat' first|apply ad|refine ai rx_ ?_|(apply gx;first|apply af|refine ae rfl ?_|apply aM)|apply ac
  refine aH rfl ⟨?_,vN2,vT2,vW2,ws++[w],?_,?_⟩
  ·rw[rR hmem];rfl
  ·intro y hy
   rcases List.mem_append.1 hy with hy|hy
   ·exact hws y hy
   ·simp only[List.mem_singleton]at hy;subst hy;exact hw
  ·have e1:jl D A.length (A++[(-1,l)]).length=D++[List.replicate 256 (-1)]:=by
    rw[jl,List.length_append,List.length_singleton,Nat.add_sub_cancel_left,List.replicate_one]
   unfold chA
   rw[e1,List.map_append,List.map_append,List.map_singleton,List.map_singleton,hty,hwy,ol fO _ A 0 (by unfold fO;rw[if_pos (by simp only;omega)])]
   exact hS4
end
end Go.Proofs.YtlnobeojgifojaaGreatDoor
