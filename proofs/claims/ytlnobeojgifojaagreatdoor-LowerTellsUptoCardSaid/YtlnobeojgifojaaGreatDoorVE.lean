/- (*lower.maker).lay, state, amid, step. -/
import Derived.Test.YtlnobeojgifojaaGreatDoorVD
set_option linter.unusedVariables false
set_option linter.unusedSimpArgs false
namespace Go.Proofs.YtlnobeojgifojaaGreatDoor
section
open Go
set_option maxHeartbeats 4000000
@[reducible] def vZ (l:List Way):AV := .rd l.length (l.flatMap nT) false
@[reducible] def Ck (l:List jx):AV := .rd l.length (l.map mK) false
@[reducible] def mkM (x:Dfa)(vR vN vT vW:AV)(imN imO:Nat):List AV:=[x.parts.mv Rw.sv,x.next.mv Rw.iv,x.tags.iv,vR,vN,vT,vW,.map imN,.map imO]
@[reducible] def dsM (D:List (List Int)):List (Nat×Nat×List AV):=D.map fun r=>(1,r.length,r.map (.int .i64))
@[reducible] def chM (c:cT)(iM imN imO:Nat)(x:Dfa)(Rs:List (List jx))(vR vN vT vW:AV)(ws:List AV)(D:List (List Int))(T:List Int)(W:List (List Way))(eN eO:List (AV×AV)):List cT :=
 [xc vN [] ws (dsM D),c,bU iM (.cells 0 (mkM x vR vN vT vW imN imO)),cA vR 1 Rs.length (Rs.map Ck),cA vT 1 T.length (T.map (.int .i64)),cA vW 1 W.length (W.map vZ),bU imN (.map none eN),bU imO (.map (some .i64) eO)]
theorem aD.notMap {h:ad}{v:AV}{e n m:Nat}{cs:List AV}(hr:aD h v e n cs):v ≠ .map m:=by
 rintro rfl
 rcases hr with⟨h1,_⟩|⟨_,_,h1,_⟩<;>cases h1
theorem aD.cells_of {h:ad}{v:AV}{e n:Nat}{cs cs':List AV}{id g:Nat}(hr:aD h v e n cs)(hi:v.rowId=some id)(hg:h.get id=some (.cells g cs')):cs'=cs:=by
 rcases hr with⟨rfl,_⟩|⟨id',g',rfl,h1,_⟩
 ·cases hi
 ·cases hi
  rw[hg]at h1
  injection h1 with h1
  injection h1
theorem zc {F:bZ}{r:List bK}{Q:Env→ad→Prop}{env:Env}{h:ad}{d f:Nat}{e:Bool}{l:List bA}{vs:List AV}(ha:l.map (ev env)=vs)(hv:vs.all (fun v => !v.isTup)=true)(k:F f vs h (fun v h'=>yJ e h h'∧az F r Q (env.put d v) h')):az F (⟨some d,.callk e f l,none⟩::r) Q env h:=by
 subst ha
 simp only[List.all_map,Function.comp_def]at hv
 simp only[bO,C0,bH]
 exact⟨hv,k⟩
theorem Ga {F:bZ}{r:List bK}{Q:Env→ad→Prop}{env:Env}{h:ad}{d id off m:Nat}{x:bA}{cs:List AV}(hx:ev env x = .ptr id 0 off)(hg:h.get id=some (.cells 0 cs))(hm:cs[off]?=some (AV.map m))(k:az F r Q (env.put d (.map m)) h):az F (⟨some d,.loadm false x,none⟩::r) Q env h:=by
 have hl:=(List.getElem?_eq_some_iff.1 hm).1
 simp only[bO,CZ,bg,hx,hg]
 rw[if_pos ⟨trivial,(fun h:false=true=>trivial),hl⟩,List.getD_eq_getElem?_getD,hm]
 exact k
attribute [local irreducible] az bf bm de bz cw dH bJ wop cz bc
set_option maxRecDepth 100000 in
theorem Cx {Φ:Lib}(L:fh Φ){h:ad}{c:cT}{iM imN imO:Nat}{x:Dfa}{Rs:List (List jx)}{vR vN vT vW:AV}{ws:List AV}{D:List (List Int)}{T:List Int}{W:List (List Way)}{eN eO:List (AV×AV)}(hS:Sep h (chM c iM imN imO x Rs vR vN vT vW ws D T W eN eO))(l:List Way)(tag:Int)(hD:D.length=W.length)(hT:T.length=W.length)(hW:W.length≤1073741824)(hws:∀ w∈ws,∃ id g,w = .own id g 1 0 256 none) :
  bc Φ 278 [.ptr iM 0 0,vZ l,.int .i64 tag] h (fun r h'=>(r = .int .i64 W.length∧H3 h h')∧∃ (vN' vT' vW' w:AV),(∃ id g,w = .own id g 1 0 256 none)∧Sep h' (chM c iM imN imO x Rs vR vN' vT' vW' (ws++[w]) (D++[List.replicate 256 (-1)]) (T++[tag]) (W++[l]) eN eO)):=by
 have hM:h.get iM=some (.cells 0 (mkM x vR vN vT vW imN imO)):=hS.get (i:=2) rfl
 have hvW:aD h vW 1 W.length _:=hS.get (i:=5) rfl
 have hnW:=hvW.notTup
 refine ba (fun _=>false) rfl L.f278 ?_
 repeat' first|apply ac|(apply gw;first|refine au rx_ ?_|(apply gq2;first|refine aF rx_ ?_|refine am rfl hg_ Lm b_ pv_ ?_)|(apply jI;first|refine bq rx_ ?_|refine bp rx_ ?_)|(apply lp;first|refine cn rx_ ?_|refine cm rx_ ?_|(refine aY (m:=1) rx_ ir_ rfl rfl Ll ?_;intro va hpa hra hka hria))|(apply gq4;first|refine aL rx_ ?_|refine ar rfl (Nat.zero_add _) ?_)|refine br rfl ?_|refine bj (cs:=[AV.rd _ _ _]) rfl rfl ?_)|(apply gx;first|apply af|refine ae rfl ?_)|apply aa
 have hS1:=hS.upd 5 (cA va 1 (W.length+1) (W.map vZ++[vZ l])) rfl hra hka hria
 have hM1:hpa.get iM=some (.cells 0 (mkM x vR vN vT vW imN imO)):=hS1.get (i:=2) rfl
 refine ck (v:=va) (cs':=mkM x vR vN vT va imN imO) rfl rfl hra hM1 Lm rfl ?_
 have hS2:=hS1.put 2 (.cells 0 (mkM x vR vN vT va imN imO)) rfl
 have hf1:∀ k,h.get k≠none→k≠iM→vW.rowId≠some k→(hpa.set iM (.cells 0 (mkM x vR vN vT va imN imO))).get k=h.get k:=fun k hk h1 h2=>(ad.get_set_ne _ _ h1).trans (hka k hk h2)
 generalize hpa.set iM (.cells 0 (mkM x vR vN vT va imN imO))=h1 at hS2 hf1 ⊢
 clear hS1 hM1 hra hka hria
 obtain⟨vW2,rfl⟩:∃ y,y=va:=⟨_,rfl⟩
 have hM1:h1.get iM=some (.cells 0 (mkM x vR vN vT vW2 imN imO)):=hS2.get (i:=2) rfl
 have hN1:hY h1 vN [] ws (dsM D):=hS2.get (i:=0) rfl
 have hvN1:=hN1.out
 simp only[List.length_nil,Nat.zero_add,List.nil_append]at hvN1
 have hnN:=hvN1.notTup
 have hwl:ws.length=D.length:=by rw[hN1.fam.len,List.length_map]
 repeat' first|apply ac|(apply gw;first|refine au rx_ ?_|(apply gq2;first|refine aF rx_ ?_|refine am rfl hg_ Lm b_ pv_ ?_)|(apply gq4;first|refine aL rx_ ?_|refine ar rfl (Nat.zero_add _) ?_|refine ar rfl rfl ?_)|refine br rfl ?_|refine bj (cs:=[AV.int _ _]) rfl rfl ?_)|(apply gx;first|apply af|refine ae rfl ?_)|apply aa
 refine zc rfl Lm ?_
 refine bc.mono Φ _ _ _ _ _ ?_ (EM L (-1) true)
 rintro _ h2 ⟨iw,rfl,hiw,rfl⟩
 refine⟨?_,?_⟩
 ·unfold yJ
  rw[if_pos rfl]
  exact fun k o e=>(ad.get_set_ne _ _ fun e2=>by rw[e2,hiw]at e;cases e).trans e
 have hS3:=(hS2.rowF (id:=iw) (n:=256) (rs:=List.replicate 256 (AV.int .i64 (-1))) hiw List.length_replicate).perm (.swap _ _ _)
 have hf2:∀ k,h1.get k≠none→(h1.set iw (.cells 1 (List.replicate 256 (AV.int .i64 (-1))))).get k=h1.get k:=fun k hk=>ad.get_set_ne _ _ fun e=>hk (e ▸ hiw)
 generalize h1.set iw (.cells 1 (List.replicate 256 (AV.int .i64 (-1))))=h2 at hS3 hf2 ⊢
 have hN2:hY h2 vN [] ws (dsM D):=hS3.get (i:=0) rfl
 have hvN:=hN2.out
 simp only[List.length_nil,Nat.zero_add,List.nil_append]at hvN
 clear hN1 hvN1
 repeat' first|(apply gw;first|(apply jI;first|refine bq rx_ ?_|refine bp rx_ ?_)|(apply lp;first|refine cn rx_ ?_|refine cm rx_ ?_|(refine aY (m:=1) rx_ ir_ rfl rfl Ll ?_;intro va hpa hra hka hria))|(apply gq4;first|refine aL rx_ ?_|refine ar rfl (Nat.zero_add _) ?_|refine ar rfl rfl ?_)|refine br rfl ?_|refine bj (cs:=[AV.own _ _ _ _ _ _]) rfl rfl ?_)
 have hS4:=hS3.nmoreRow hra hka hria
 have hM2:hpa.get iM=some (.cells 0 (mkM x vR vN vT vW2 imN imO)):=hS4.get (i:=2) rfl
 refine ck (v:=va) (cs':=mkM x vR va vT vW2 imN imO) rfl rfl hra hM2 Lm rfl ?_
 have hS5:=hS4.put 2 (.cells 0 (mkM x vR va vT vW2 imN imO)) rfl
 have hf3:∀ k,h2.get k≠none→k≠iM→vN.rowId≠some k→(hpa.set iM (.cells 0 (mkM x vR va vT vW2 imN imO))).get k=h2.get k:=fun k hk h1 h2=>(ad.get_set_ne _ _ h1).trans (hka k hk h2)
 generalize hpa.set iM (.cells 0 (mkM x vR va vT vW2 imN imO))=h3 at hS5 hf3 ⊢
 clear hS4 hM2 hra hka hria hS3 hS2 hM1 hvN hN2
 obtain⟨vN2,rfl⟩:∃ y,y=va:=⟨_,rfl⟩
 have hM1:h3.get iM=some (.cells 0 (mkM x vR vN2 vT vW2 imN imO)):=hS5.get (i:=2) rfl
 have hvT:aD h3 vT 1 T.length _:=hS5.get (i:=4) rfl
 have hnT:=hvT.notTup
 repeat' first|apply ac|(apply gw;first|refine au rx_ ?_|(apply gq2;first|refine aF rx_ ?_|refine am rfl hg_ Lm b_ pv_ ?_)|(apply jI;first|refine bq rx_ ?_|refine bp rx_ ?_)|(apply lp;first|refine cn rx_ ?_|refine cm rx_ ?_|(refine aY (m:=1) rx_ ir_ rfl rfl Ll ?_;intro va hpa hra hka hria))|(apply gq4;first|refine aL rx_ ?_|refine ar rfl (Nat.zero_add _) ?_|refine ar rfl rfl ?_)|refine br rfl ?_|refine bj (cs:=[AV.int _ _]) rfl rfl ?_)|(apply gx;first|apply af|refine ae rfl ?_)|apply aa
 have hS6:=hS5.upd 4 (cA va 1 (T.length+1) (T.map (.int .i64)++[.int .i64 tag])) rfl hra hka hria
 have hM2:hpa.get iM=some (.cells 0 (mkM x vR vN2 vT vW2 imN imO)):=hS6.get (i:=2) rfl
 refine ck (v:=va) (cs':=mkM x vR vN2 va vW2 imN imO) rfl rfl hra hM2 Lm rfl ?_
 have hS7:=hS6.put 2 (.cells 0 (mkM x vR vN2 va vW2 imN imO)) rfl
 have hf4:∀ k,h3.get k≠none→k≠iM→vT.rowId≠some k→(hpa.set iM (.cells 0 (mkM x vR vN2 va vW2 imN imO))).get k=h3.get k:=fun k hk h1 h2=>(ad.get_set_ne _ _ h1).trans (hka k hk h2)
 generalize hpa.set iM (.cells 0 (mkM x vR vN2 va vW2 imN imO))=h4 at hS7 hf4 ⊢
 clear hS6 hM2 hra hka hria hS5 hM1 hvT
 obtain⟨vT2,rfl⟩:∃ y,y=va:=⟨_,rfl⟩
 have hM1:h4.get iM=some (.cells 0 (mkM x vR vN2 vT2 vW2 imN imO)):=hS7.get (i:=2) rfl
 have hvW2:aD h4 vW2 1 (W.length+1) _:=hS7.get (i:=5) rfl
 repeat' first|apply ac|(apply gw;first|refine au rx_ ?_|(apply gq2;first|refine aF rx_ ?_|refine am rfl hg_ Lm b_ pv_ ?_)|(apply gq3;first|refine aC rx_ ?_|refine jj rfl rfl rfl Ll Ll ?_)|(apply gq6;first|refine bk rx_ ?_|refine eR rx_ (by assumption) ?_)|(apply gq4;first|refine aL rx_ ?_|refine ar rfl (Nat.zero_add _) ?_)|refine br rfl ?_)|(apply gx;first|apply af|refine ae rfl ?_|apply aM)|apply aa
 refine aJ rfl ⟨⟨?_,?_⟩,vN2,vT2,vW2,_,⟨iw,1,rfl⟩,?_⟩
 ·exact congrArg (AV.int .i64) Ll
 ·intro id g cs off m hid hm
  by_cases hk1:id=iM
  ·subst hk1
   rw[hM]at hid
   injection hid with hid
   injection hid with e1 e2
   subst e1 e2
   refine⟨_,hM1,?_⟩
   have hlt:=(List.getElem?_eq_some_iff.1 hm).1
   have hlt2:off<9:=hlt
   have q3:aD h vR 1 Rs.length _:=hS.get (i:=3) rfl
   have q4:hY h vN [] ws (dsM D):=hS.get (i:=0) rfl
   have q5:aD h vT 1 T.length _:=hS.get (i:=4) rfl
   have q6:aD h vW 1 W.length _:=hS.get (i:=5) rfl
   have hc:off=0∨off=1∨off=2∨off=3∨off=4∨off=5∨off=6∨off=7∨off=8:=by omega
   rcases hc with rfl|rfl|rfl|rfl|rfl|rfl|rfl|rfl|rfl
   ·cases hm
   ·cases hm
   ·cases hm
   ·injection hm with hm;exact(q3.notMap hm).elim
   ·injection hm with hm;exact(q4.out.notMap hm).elim
   ·injection hm with hm;exact(q5.notMap hm).elim
   ·injection hm with hm;exact(q6.notMap hm).elim
   ·exact hm
   ·exact hm
  ·have hne:h.get id≠none:=by rw[hid];simp
   have q4:hY h vN [] ws (dsM D):=hS.get (i:=0) rfl
   have q5:aD h vT 1 T.length _:=hS.get (i:=4) rfl
   have q6:aD h vW 1 W.length _:=hS.get (i:=5) rfl
   have hkW:vW.rowId≠some id:=fun e=>by
    have e2:=q6.cells_of e hid
    rw[e2,List.getElem?_map,Option.map_eq_some_iff]at hm
    obtain⟨_,_,hm⟩:=hm
    cases hm
   have hkN:vN.rowId≠some id:=fun e=>by
    have e2:=q4.out.cells_of e hid
    rw[e2,List.nil_append]at hm
    obtain⟨_,_,hm⟩:=hws _ (List.mem_of_getElem? hm)
    cases hm
   have hkT:vT.rowId≠some id:=fun e=>by
    have e2:=q5.cells_of e hid
    rw[e2,List.getElem?_map,Option.map_eq_some_iff]at hm
    obtain⟨_,_,hm⟩:=hm
    cases hm
   have g1:=hf1 id hne hk1 hkW
   have g2:=hf2 id (by rw[g1];exact hne)
   have g3:=hf3 id (by rw[g2,g1];exact hne) hk1 hkN
   have g4:=hf4 id (by rw[g3,g2,g1];exact hne) hk1 hkT
   exact⟨cs,by rw[g4,g3,g2,g1];exact hid,hm⟩
 ·have e1:dsM (D++[List.replicate 256 (-1)])=dsM D++[(1,256,List.replicate 256 (AV.int .i64 (-1)))]:=by
   rw[dsM,List.map_append,List.map_singleton,List.length_replicate,List.map_replicate]
  unfold chM
  rw[e1,List.length_append,List.length_append,List.map_append,List.map_append]
  exact hS7
end
section
open Go
set_option maxHeartbeats 4000000
def fN (a:RSt):Option AV:=if a.1<0 then some (.str (gU a.2)) else none
def fO (a:RSt):Option AV:=if a.1<0 then none else some (.int .i64 a.1)
structure OkR (d:PD)(a:RSt):Prop where
 inr:InR d a
 wb:∀ w∈eu d a,B5 w∧w.1≠[]
 len:(eu d a).length≤4194304
theorem BG {d:PD}{a b:RSt}(ha:InR d a)(hb:InR d b){key:AV}(h1:fO a=some key)(h2:fO b=some key):b=a:=by
 unfold fO at h1 h2
 split at h1
 ·cases h1
 ·split at h2
  ·cases h2
  ·injection h1 with h1
   injection h2 with h2
   have e:=h1.trans h2.symm
   injection e with _ e
   rcases ha with⟨_,a2⟩|⟨a1,_⟩
   ·rcases hb with⟨_,b2⟩|⟨b1,_⟩
    ·exact Prod.ext e.symm (b2.trans a2.symm)
    ·omega
   ·omega
theorem Hn {d:PD}{a b:RSt}(ha:OkR d a)(hb:OkR d b){key:AV}(h1:fN a=some key)(h2:fN b=some key):b=a:=by
 unfold fN at h1 h2
 split at h1
 ·rename_i ha0
  split at h2
  ·rename_i hb0
   injection h1 with h1
   injection h2 with h2
   have e:=h1.trans h2.symm
   injection e with e
   have a1:a.1 = -1:=by
    rcases ha.inr with⟨⟨q,_⟩,_⟩|⟨q,_⟩<;>omega
   have b1:b.1 = -1:=by
    rcases hb.inr with⟨⟨q,_⟩,_⟩|⟨q,_⟩<;>omega
   have wa:=ha.wb
   have wb:=hb.wb
   unfold eu at wa wb
   rw[if_pos ha0]at wa
   rw[if_pos hb0]at wb
   exact Prod.ext (b1.trans a1.symm) (wJ (fun w hw=>(wb w hw).1) (fun w hw=>(wa w hw).1) e.symm)
  ·cases h2
 ·cases h1
theorem tA {α:Type}[DecidableEq α]{L:List α}{a:α}(h:a∈L):cE L (some a)=L:=by
 show(if a∈L then L else L++[a])=L
 rw[if_pos h]
theorem pS {α:Type}[DecidableEq α]{L:List α}{a:α}(h:a∉L):cE L (some a)=L++[a]:=by
 show(if a∈L then L else L++[a])=_
 rw[if_neg h]
theorem ug {α:Type}[DecidableEq α]{L:List α}{a:α}(h:a∉L):gR (L++[a]) (some a)=(L.length:Nat):=by
 show(((L++[a]).idxOf a:Nat):Int)=_
 rw[List.idxOf_append,if_neg h]
 simp
theorem FG {α:Type}[DecidableEq α]{f:α→Option AV}{a:α}{key:AV}(ha:f a=some key){A:List α}(hn:a∉A)(h:∀ b∈A,f b=some key→b=a):iN (ij f 0 (A++[a])) key=some (.int .i64 (A.length:Nat)):=by
 rw[mF ha (A++[a]) 0 fun b hb e=>by
  rcases List.mem_append.1 hb with hb|hb
  ·exact h b hb e
  ·simpa using hb]
 rw[if_pos Lm,List.idxOf_append,if_neg hn]
 simp
@[reducible] def ss (w:AV):Prop:=∃ id g,w = .own id g 1 0 256 none
@[reducible] def chA (c:cT)(iM imN imO:Nat)(x:Dfa)(Rs:List (List jx))(vR vN vT vW:AV)(ws:List AV)(D:List (List Int))(d:PD)(A:List RSt):List cT :=
 chM c iM imN imO x Rs vR vN vT vW ws D (A.map (nV d)) (A.map (eu d)) (ij fN 0 A) (ij fO 0 A)
def ky (D:List (List Int))(n m:Nat):List (List Int):=D++List.replicate (m-n) (List.replicate 256 (-1))
def n0 (p:List aj×Int):List Way:=if p.2 = -1 then [] else(dp p.1).map fun r=>(r,p.2)
theorem yR (parts:List (List aj))(next:List Int):cL parts next=(parts.zip next).flatMap n0:=rfl
theorem C7 {l:List (List aj×Int)}{k:Nat}{p:List aj×Int}(h:l[k]?=some p):(l.take (k+1)).flatMap n0=(l.take k).flatMap n0++n0 p:=by
 rw[aV h,List.flatMap_append]
 simp
attribute [local irreducible] az bf bm de bz cw dH bJ wop cz bc
set_option maxRecDepth 100000 in
theorem wl {Φ:Lib}(L:fh Φ){h:ad}{c:cT}{iM imN imO:Nat}{x:Dfa}{vR vN vT vW:AV}{ws:List AV}{D:List (List Int)}{d:PD}{A:List RSt}(hd:d.Ok)(hx:x.plain=d)(hS:Sep h (chA c iM imN imO x (d.parts.map dp) vR vN vT vW ws D d A))(hA:∀ a∈A,OkR d a)(hD:D.length=A.length)(hAl:A.length≤1073741824)(hws:∀ w∈ws,ss w)(i:Int)(hi:In d.n i)(hR:OkR d (i,[])) :
  bc Φ 268 [.ptr iM 0 0,.int .i64 i] h (fun r h'=>r = .int .i64 (gR (cE A (some (i,[]))) (some (i,[])))∧∃ (vN' vT' vW':AV) (ws':List AV),(∀ w∈ws',ss w)∧Sep h' (chA c iM imN imO x (d.parts.map dp) vR vN' vT' vW' ws' (ky D A.length (cE A (some (i,[]))).length) d (cE A (some (i,[]))))):=by
 have hM:h.get iM=some (.cells 0 (mkM x vR vN vT vW imN imO)):=hS.get (i:=2) rfl
 have hO:h.get imO=some (.map (some .i64) (ij fO 0 A)):=hS.get (i:=7) rfl
 have hi0:=hi.1
 have hi1:=hi.2
 obtain⟨q,rfl⟩:∃ q:Nat,i=(q:Int):=⟨i.toNat,by omega⟩
 have htl:x.tags.l.length=d.n:=by rw[← hx];rfl
 have hnl:x.next.l.length=d.n:=by rw[← hd.nl,← hx];simp[Dfa.plain,cG]
 have hfO:fO ((q:Int),[])=some (.int .i64 q):=by unfold fO;rw[if_neg (by simp only;omega)]
 have hlk:=mF hfO A 0 fun b hb e=>BG hR.inr (hA b hb).inr hfO e
 refine ba (fun o=>o == some 59) rfl L.f268 ?_
 repeat' first|apply ac|(apply gw;first|refine au rx_ ?_|(apply gq2;first|refine aF rx_ ?_|refine am rfl hg_ Lm b_ pv_ ?_)|(apply gq4;first|refine aL rx_ ?_|refine ar rfl (Nat.zero_add _) ?_)|refine br rfl ?_)|(apply gx;first|apply af|refine ae rfl ?_)|apply aa
 refine jk (key:=AV.int .i64 q) rfl rfl rfl hO ?_
 rw[hlk]
 by_cases hmem:(((q:Int),[]):RSt)∈A
 ·rw[if_pos hmem]
  have hv:cE A (some (((q:Int),[]):RSt))=A:=tA hmem
  rw[hv]
  repeat' first|apply ac|(apply gw;first|refine au rx_ ?_|refine ce rfl rfl ?_)|(apply gx;first|apply af|refine ae rfl ?_|apply aM|refine ak rfl ?_)|apply aa|apply cp
  refine aJ rfl ⟨?_,vN,vT,vW,ws,hws,?_⟩
  ·rw[Nat.zero_add];rfl
  ·rw[ky,Nat.sub_self,List.replicate_zero,List.append_nil];exact hS
 ·rw[if_neg hmem]
  have hv:cE A (some (((q:Int),[]):RSt))=A++[((q:Int),[])]:=pS hmem
  rw[hv]
  obtain⟨r,hr⟩:=aK (l:=x.next.l) (i:=q) (by rw[hnl];omega)
  have hrl:r.l=d.row q:=by rw[← hx];simp[PD.row,Dfa.plain,cG,hr]
  have hrk:r.l.length=d.parts.length:=by rw[hrl];exact hd.tab.len q hi
  have hp2:d.parts.length≤2000:=hd.p1
  have hz:(d.parts.zip r.l).length=r.l.length:=by rw[List.length_zip];omega
  have hwl:(eu d ((q:Int),[]))=(d.parts.zip r.l).flatMap n0:=by
   rw[hrl,← yR]
   unfold eu
   rw[if_neg (by simp only;omega)]
  have hlen:=hR.len
  rw[hwl]at hlen
  have hlk2:∀ k,((d.parts.zip r.l).take k).flatMap n0 <+: (d.parts.zip r.l).flatMap n0:=fun k=>by
   conv=>rhs;rw[← List.take_append_drop k (d.parts.zip r.l),List.flatMap_append]
   exact List.prefix_append _ _
  repeat' first|apply ac|(apply gw;first|refine au rx_ ?_|(apply gq2;first|refine aF rx_ ?_|refine aB rfl b_ pv_ ?_|refine am rfl hg_ Lm b_ pv_ ?_)|(apply gq5;first|refine aS rx_ ?_|refine aU rx_ ?_|refine ah rfl rfl hr Ll rfl ?_)|(apply gq6;first|refine bk rx_ ?_|refine aw rfl ?_)|(apply gq4;first|refine aL rx_ ?_|refine ar rfl (Nat.zero_add _) ?_)|refine br rfl ?_|refine ce rfl rfl ?_)|(apply gx;first|apply af|refine ae rfl ?_|apply ay|apply al|refine ai rfl ?_)|apply aa
  refine bD r.l.length (fun k env h'=>∃ v,Sep h' (chA c iM imN imO x (d.parts.map dp) vR vN vT vW ws D d A++[cA v 2 (((d.parts.zip r.l).take k).flatMap n0).length ((((d.parts.zip r.l).take k).flatMap n0).flatMap nT)])∧env.has [(0,.ptr iM 0 0),(1,.int .i64 q),(7,v),(30,r.iv),(31,.int .i64 r.l.length),(32,.int .i64 k)]) ⟨_,hS.nil 2,hh_⟩ ?_
  clear hS hM hO
  rintro k env h' hk ⟨v,hS,he⟩
  obtain⟨env,rfl⟩:=he.ex
  clear he
  have hM:h'.get iM=some (.cells 0 (mkM x vR vN vT vW imN imO)):=hS.get (i:=2) rfl
  have hvR:aD h' vR 1 (d.parts.map dp).length _:=hS.get (i:=3) rfl
  have hv:aD h' v 2 _ _:=hS.get (i:=8) rfl
  have hnt:=hv.notTup
  by_cases hk2:k<r.l.length
  ·obtain⟨to,hto⟩:=aK hk2
   obtain⟨p,hp⟩:=aK (l:=d.parts) (i:=k) Ll
   have hzk:(d.parts.zip r.l)[k]?=some (p,to):=List.getElem?_zip_eq_some.2 ⟨hp,hto⟩
   have hsn:=C7 hzk
   have hRk:(d.parts.map dp)[k]?=some (dp p):=by rw[List.getElem?_map,hp];rfl
   have hpre:=(hlk2 (k+1)).length_le
   rw[hsn,List.length_append]at hpre
   by_cases hto1:to = -1
   ·subst hto1
    have hwf:n0 (p,-1)=[]:=by unfold n0;rw[if_pos rfl]
    rw[hwf,List.append_nil]at hsn
    repeat' first|apply ac|(apply gw;first|refine au rx_ ?_|(apply gq2;first|refine aF rx_ ?_|refine aB rfl b_ pv_ ?_)|(apply gq3;first|refine aC rx_ ?_|refine aQ rx_ ?_|refine aT rfl rfl rfl Ll Ll ?_|((first|refine aA rfl rfl rfl ?_ ?_|refine dd rfl rfl rfl ?_ ?_)<;>(intro hc;try omega)))|(apply gq5;first|refine aS rx_ ?_|refine aU rx_ ?_|refine ah rfl rfl hto Ll rfl ?_))|(apply gx;first|apply af|refine ae rfl ?_|apply ay|apply al|apply aN|refine ak rfl ?_)|apply aa|apply aO|apply aP
    refine aR hk2 ⟨v,?_,hh_⟩
    rw[hsn]
    exact hS
   ·have hwf:n0 (p,to)=(dp p).map fun r=>(r,to):=by unfold n0;rw[if_neg hto1]
    rw[hwf]at hsn hpre
    rw[List.length_map]at hpre
    have hnR:=hvR.notTup
    have hRl:(d.parts.map dp).length=d.parts.length:=List.length_map _
    repeat' first|apply ac|(apply gw;first|refine au rx_ ?_|(apply gq2;first|refine aF rx_ ?_|refine eH (g:=_) rfl hg_ hRk eq_ ?_|refine aB rfl b_ pv_ ?_|refine am rfl hg_ Lm b_ pv_ ?_)|(apply gq3;first|refine aC rx_ ?_|refine aQ rx_ ?_|((first|refine aA rfl rfl rfl ?_ ?_|refine dd rfl rfl rfl ?_ ?_)<;>(intro hc;try omega)))|(apply gq5;first|refine aS rx_ ?_|refine aU rx_ ?_|refine ah rfl rfl hto Ll rfl ?_|(refine cY rx_ (by assumption) rfl Ll Ll ?_;intro ir gr hvr hgr hgp;have hner:=ad.ne_of hgr;have hner2:=ad.ne_of2 hgr))|(apply gq6;first|refine bk rx_ ?_|refine aw rfl ?_)|(apply gq4;first|refine aL rx_ ?_|refine ar rfl (Nat.zero_add _) ?_)|refine br rfl ?_)|(apply gx;first|apply af|refine ae rfl ?_|apply ay|apply al|refine ak rfl ?_|refine ai rfl ?_)|apply aa
    generalize ((d.parts.zip r.l).take k).flatMap n0=lk at *
    refine bD (dp p).length (fun j env h'=>∃ v,Sep h' (chA c iM imN imO x (d.parts.map dp) vR vN vT vW ws D d A++[cA v 2 (lk++((dp p).take j).map fun r=>(r,to)).length ((lk++((dp p).take j).map fun r=>(r,to)).flatMap nT)])∧env.has [(0,.ptr iM 0 0),(1,.int .i64 q),(7,v),(9,.int .i64 to),(30,r.iv),(31,.int .i64 r.l.length),(32,.int .i64 k),(45,Ck (dp p)),(46,.int .i64 (dp p).length),(47,.int .i64 j)]) ⟨v,by rw[List.take_zero,List.map_nil,List.append_nil];exact hS,hh_⟩ ?_
    clear hS hM hvR hv hnt hnR hvr hgr hgp hner hner2
    rintro j env h' hj ⟨v,hS,he⟩
    obtain⟨env,rfl⟩:=he.ex
    clear he
    have hv:aD h' v 2 _ _:=hS.get (i:=8) rfl
    have hnt:=hv.notTup
    have hjl:(lk++((dp p).take j).map fun r=>(r,to)).length=lk.length+j:=by rw[List.length_append,List.length_map,List.length_take];omega
    by_cases hj2:j<(dp p).length
    ·obtain⟨rw_,hrw⟩:=aK hj2
     rw[hjl]at hv
     repeat' first|apply ac|(apply gw;first|refine au rx_ ?_|(apply gq2;first|refine aF rx_ ?_|refine aB rfl b_ pv_ ?_)|(apply gq3;first|refine aC rx_ ?_|refine aQ rx_ ?_|refine aT rfl rfl rfl Ll Ll ?_|(refine aA rfl rfl rfl ?_ ?_<;>(intro hc;try omega)))|(apply gq5;first|refine aS rx_ ?_|refine aU rx_ ?_|refine ah rfl rfl hrw Ll rfl ?_)|(apply lp;first|refine cn rx_ ?_|refine cm rx_ ?_|(refine aY (m:=1) rx_ ir_ rfl rfl Ll ?_;intro va hpa hra hka hria))|refine cO rfl ?_|refine bj rfl rfl ?_)|(apply gx;first|apply af|refine ae rfl ?_|apply ay|apply al|refine ak rfl ?_)|apply aa|apply aI
     have hS1:=hS.upd 8 (cA va 2 (lk.length+j+1) (((lk++((dp p).take j).map fun r=>(r,to)).flatMap nT)++nT (rw_,to))) rfl hra (by rw[← hjl]at *;exact hka) hria
     refine aR hj2 ⟨va,?_,hh_⟩
     rw[aV hrw,List.map_append,← List.append_assoc,List.length_append,hjl,List.flatMap_append]
     simpa using hS1
    ·repeat' first|apply ac|(apply gw;first|refine au rx_ ?_|(apply gq3;first|refine aC rx_ ?_|refine aQ rx_ ?_|refine aT rfl rfl rfl Ll Ll ?_|(refine aA rfl rfl rfl ?_ ?_<;>(intro hc;try omega))))|(apply gx;first|apply af|refine ae rfl ?_|apply aN|refine ai rfl ?_)|apply aa|apply aO|apply aI|apply aP|apply aX
     rw[List.take_of_length_le Ll]at hS
     refine aR hk2 ⟨v,?_,hh_⟩
     rw[hsn]
     exact hS
  ·have hpre:=hlk2 k
   rw[List.take_of_length_le Ll]at hS hv
   rw[← hwl]at hS hv hlen
   repeat' first|apply ac|(apply gq3;first|refine aC rx_ ?_|refine aQ rx_ ?_|(refine aA rfl rfl rfl ?_ ?_<;>(intro hc;try omega)))|(apply gx;first|apply af|refine ae rfl ?_|apply aN|refine ai rfl ?_)|apply aa|apply aO|apply aP|apply aX
   refine fk 7 (v:=v) rfl rfl hv ?_
   intro h2 hk2
   have hS2:=hS.drop 8 (h':=h2) rfl hk2
   clear hS hM hvR hv hnt hk2
   have hM:h2.get iM=some (.cells 0 (mkM x vR vN vT vW imN imO)):=hS2.get (i:=2) rfl
   obtain⟨t,ht⟩:=aK (l:=x.tags.l) (i:=q) (by rw[htl];omega)
   have htag:nV d ((q:Int),[])=t:=by
    unfold nV
    rw[if_neg (by simp only;omega),← hx]
    simp[PD.tag,Dfa.plain,ht]
   repeat' first|(apply gw;first|refine au rx_ ?_|(apply gq4;first|refine aL rx_ ?_|refine ar rfl (Nat.zero_add _) ?_)|refine br rfl ?_)
   refine Ga (off:=8) rfl hM rfl ?_
   repeat' first|(apply gw;first|refine au rx_ ?_|(apply gq2;first|refine aF rx_ ?_|refine aB rfl b_ pv_ ?_|refine am rfl hg_ Lm b_ pv_ ?_)|(apply gq5;first|refine aS rx_ ?_|refine aU rx_ ?_|refine ah rfl rfl ht Ll rfl ?_)|(apply gq4;first|refine aL rx_ ?_|refine ar rfl (Nat.zero_add _) ?_)|refine br rfl ?_)
   refine zc rfl Lm ?_
   refine bc.mono Φ _ _ _ _ _ ?_ (Cx L hS2 (eu d ((q:Int),[])) t (by simpa using hD) Lm (by simpa using hAl) hws)
   rintro _ h3 ⟨⟨rfl,hkm⟩,vN2,vT2,vW2,w,hw,hS3⟩
   refine⟨by unfold yJ;rw[if_neg (by decide)];exact hkm,?_⟩
   rw[List.length_map]
   have hO3:h3.get imO=some (.map (some .i64) (ij fO 0 A)):=hS3.get (i:=7) rfl
   skip
   refine gP (key:=AV.int .i64 q) (v:=AV.int .i64 A.length) rfl rfl rfl rfl rfl hO3 ?_
   have he2:=qo hfO A 0 (fun b hb e=>hmem (by rw[← BG hR.inr (hA b hb).inr hfO e];exact hb))
   rw[Nat.zero_add]at he2
   rw[he2]
   have hS4:=hS3.put 7 (.map (some .i64) (ij fO 0 (A++[((q:Int),[])]))) rfl
   generalize h3.set imO _=h4 at hS4 ⊢
   have hM4:h4.get iM=some (.cells 0 (mkM x vR vN2 vT2 vW2 imN imO)):=hS4.get (i:=2) rfl
   have hO4:h4.get imO=some (.map (some .i64) (ij fO 0 (A++[((q:Int),[])]))):=hS4.get (i:=7) rfl
   clear hS3 hO3 hS2 hM hkm
   have hlk3:=FG hfO (A:=A) hmem fun b hb e=>BG hR.inr (hA b hb).inr hfO e
   repeat' first|apply ac|(apply gw;first|refine au rx_ ?_|(apply gq2;first|refine aF rx_ ?_|refine am rfl hg_ Lm b_ pv_ ?_)|(apply gq4;first|refine aL rx_ ?_|refine ar rfl (Nat.zero_add _) ?_)|refine br rfl ?_)|(apply gx;first|apply af|refine ae rfl ?_)|apply aa
   refine wm (key:=AV.int .i64 q) rfl rfl rfl hO4 ?_
   rw[hlk3]
   repeat' first|apply ac|refine au rx_ ?_|apply aM|apply aa
   refine aJ rfl ⟨?_,vN2,vT2,vW2,ws++[w],?_,?_⟩
   ·rw[ug hmem];rfl
   ·intro y hy
    rcases List.mem_append.1 hy with hy|hy
    ·exact hws y hy
    ·simp only[List.mem_singleton]at hy;subst hy;exact hw
   ·have e1:ky D A.length (A++[((q:Int),[])]).length=D++[List.replicate 256 (-1)]:=by
     rw[ky,List.length_append,List.length_singleton,Nat.add_sub_cancel_left,List.replicate_one]
    unfold chA
    rw[e1,List.map_append,List.map_append,List.map_singleton,List.map_singleton,htag,qk fN _ A 0 (by unfold fN;rw[if_neg (by simp only;omega)])]
    exact hS4
end
section
open Go
set_option maxHeartbeats 4000000
attribute [local irreducible] az bf bm de bz cw dH bJ wop cz bc
set_option maxRecDepth 100000 in
theorem HW {Φ:Lib}(L:fh Φ)(L3:cJ Φ){h:ad}{c:cT}{iM imN imO:Nat}{x:Dfa}{Rs:List (List jx)}{vR vN vT vW:AV}{ws:List AV}{D:List (List Int)}{d:PD}{A:List RSt}(hS:Sep h (chA c iM imN imO x Rs vR vN vT vW ws D d A))(hA:∀ a∈A,OkR d a)(hD:D.length=A.length)(hAl:A.length≤1073741824)(hws:∀ w∈ws,ss w)(l:List Way)(hR:OkR d (-1,l)) :
  bc Φ 279 [.ptr iM 0 0,vZ l] h (fun r h'=>r = .int .i64 (gR (cE A (some (-1,l))) (some (-1,l)))∧∃ (vN' vT' vW':AV) (ws':List AV),(∀ w∈ws',ss w)∧Sep h' (chA c iM imN imO x Rs vR vN' vT' vW' ws' (ky D A.length (cE A (some (-1,l))).length) d (cE A (some (-1,l))))):=by
 have hM:h.get iM=some (.cells 0 (mkM x vR vN vT vW imN imO)):=hS.get (i:=2) rfl
 have hN:h.get imN=some (.map none (ij fN 0 A)):=hS.get (i:=6) rfl
 have hfN:fN (-1,l)=some (.str (gU l)):=by unfold fN;rw[if_pos (by simp only;omega)]
 have hwy:eu d (-1,l)=l:=by unfold eu;rw[if_pos (by simp only;omega)]
 have hty:nV d (-1,l) = -1:=by unfold nV;rw[if_pos (by simp only;omega)]
 have hlen:=hR.len
 have hwb:=hR.wb
 rw[hwy]at hlen hwb
 have hlk:=mF hfN A 0 fun b hb e=>Hn hR (hA b hb) hfN e
 have hnm:=IE L L3 l false hlen (fun w hw=>(hwb w hw).1)
 refine ba (fun o=>false) rfl L.f279 ?_
 repeat' first|apply ac|(apply gw;first|refine au rx_ ?_|(apply gq2;first|refine aF rx_ ?_|refine am rfl hg_ Lm b_ pv_ ?_)|(apply gq4;first|refine aL rx_ ?_|refine ar rfl (Nat.zero_add _) ?_)|refine br rfl ?_|refine aH rfl nt_ ?_)|(apply gx;first|apply af|refine ae rfl ?_)|apply aa|refine aW (by assumption) fz_ fz_ ?_
 refine jk (key:=AV.str (gU l)) rfl rfl rfl hN ?_
 rw[hlk]
 by_cases hmem:((-1,l):RSt)∈A
 ·rw[if_pos hmem]
  rw[tA hmem]
  repeat' first|apply ac|(apply gw;first|refine au rx_ ?_|refine dh (b:=true) rfl ?_|refine ce rfl rfl ?_)|(apply gx;first|apply af|refine ae rfl ?_|apply ay|apply aM|refine ai rfl ?_)|apply aa
  refine aJ rfl ⟨?_,vN,vT,vW,ws,hws,?_⟩
  ·rw[Nat.zero_add];rfl
  ·rw[ky,Nat.sub_self,List.replicate_zero,List.append_nil];exact hS
 ·rw[if_neg hmem]
  rw[pS hmem]
  repeat' first|apply ac|(apply gw;first|refine au rx_ ?_|refine aH rfl nt_ ?_|refine dh (b:=false) rfl ?_|refine ce rfl rfl ?_)|(apply gx;first|apply af|refine ae rfl ?_|refine ak rfl ?_)|apply aa
  refine ci (Cx L hS l (-1) (by simpa using hD) Lm (by simpa using hAl) hws) ?_
  rintro _ h3 ⟨⟨rfl,hkm⟩,vN2,vT2,vW2,w,hw,hS3⟩
  rw[List.length_map]
  have hM3:h3.get iM=some (.cells 0 (mkM x vR vN2 vT2 vW2 imN imO)):=hS3.get (i:=2) rfl
  have hN3:h3.get imN=some (.map none (ij fN 0 A)):=hS3.get (i:=6) rfl
  repeat' first|apply ac|(apply gw;first|refine au rx_ ?_|(apply gq2;first|refine aF rx_ ?_|refine am rfl hg_ Lm b_ pv_ ?_)|(apply gq4;first|refine aL rx_ ?_|refine ar rfl (Nat.zero_add _) ?_)|refine br rfl ?_)|refine ae rfl ?_|apply aa
  refine gP (key:=AV.str (gU l)) (v:=AV.int .i64 A.length) rfl rfl rfl rfl rfl hN3 ?_
  have he2:=qo hfN A 0 (fun b hb e=>hmem (by rw[← Hn hR (hA b hb) hfN e];exact hb))
  rw[Nat.zero_add]at he2
  rw[he2]
  have hS4:=hS3.put 6 (.map none (ij fN 0 (A++[(-1,l)]))) rfl
  generalize h3.set imN _=h4 at hS4 ⊢
  repeat' first|apply ac|refine au rx_ ?_|(apply gx;first|apply af|refine ae rfl ?_|apply aM)|apply aa
  refine aJ rfl ⟨?_,vN2,vT2,vW2,ws++[w],?_,?_⟩
  ·rw[ug hmem];rfl
  ·intro y hy
   rcases List.mem_append.1 hy with hy|hy
   ·exact hws y hy
   ·simp only[List.mem_singleton]at hy;subst hy;exact hw
  ·have e1:ky D A.length (A++[(-1,l)]).length=D++[List.replicate 256 (-1)]:=by
    rw[ky,List.length_append,List.length_singleton,Nat.add_sub_cancel_left,List.replicate_one]
   unfold chA
   rw[e1,List.map_append,List.map_append,List.map_singleton,List.map_singleton,hty,hwy,qk fO _ A 0 (by unfold fO;rw[if_pos (by simp only;omega)])]
   exact hS4
end
end Go.Proofs.YtlnobeojgifojaaGreatDoor
