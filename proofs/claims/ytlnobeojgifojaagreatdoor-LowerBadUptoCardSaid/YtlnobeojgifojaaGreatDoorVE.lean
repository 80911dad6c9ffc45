/- (*lower.maker).lay, state, amid, step. (*lower.maker).state. (*lower.maker).amid. -/
import Derived.Test.YtlnobeojgifojaaGreatDoorVD
set_option linter.unusedVariables false
set_option linter.unusedSimpArgs false
namespace Go.Proofs.YtlnobeojgifojaaGreatDoor
section
open Go
set_option maxHeartbeats 4000000
@[reducible] def vP (l:List Way):AV := .rd l.length (l.flatMap nL) false
@[reducible] def B4 (l:List ju):AV := .rd l.length (l.map mC) false
@[reducible] def mkM (x:Dfa)(vR vN vT vW:AV)(imN imO:Nat):List AV:=[x.parts.mv Rw.sv,x.next.mv Rw.iv,x.tags.iv,vR,vN,vT,vW,.map imN,.map imO]
@[reducible] def dsM (D:List (List Int)):List (Nat×Nat×List AV):=D.map fun r=>(1,r.length,r.map (.int .i64))
@[reducible] def chM (c:cQ)(iM imN imO:Nat)(x:Dfa)(Rs:List (List ju))(vR vN vT vW:AV)(ws:List AV)(D:List (List Int))(T:List Int)(W:List (List Way))(eN eO:List (AV×AV)):List cQ :=
 [wY vN [] ws (dsM D),c,ce iM (.cells 0 (mkM x vR vN vT vW imN imO)),cC vR 1 Rs.length (Rs.map B4),cC vT 1 T.length (T.map (.int .i64)),cC vW 1 W.length (W.map vP),ce imN (.map none eN),ce imO (.map (some .i64) eO)]
theorem aC.notMap {h:ac}{v:AV}{e n m:Nat}{cs:List AV}(hr:aC h v e n cs):v ≠ .map m:=by
 rintro rfl
 rcases hr with⟨h1,_⟩|⟨_,_,h1,_⟩<;>cases h1
theorem aC.cells_of {h:ac}{v:AV}{e n:Nat}{cs cs':List AV}{id g:Nat}(hr:aC h v e n cs)(hi:v.rowId=some id)(hg:h.get id=some (.cells g cs')):cs'=cs:=by
 rcases hr with⟨rfl,_⟩|⟨id',g',rfl,h1,_⟩
 ·cases hi
 ·cases hi
  rw[hg]at h1
  injection h1 with h1
  injection h1
theorem yT {F:bT}{r:List bF}{Q:Env→ac→Prop}{env:Env}{h:ac}{d f:Nat}{e:Bool}{l:List bt}{vs:List AV}(ha:l.map (ev env)=vs)(hv:vs.all (fun v => !v.isTup)=true)(k:F f vs h (fun v h'=>yu e h h'∧aw F r Q (env.put d v) h')):aw F (⟨some d,.callk e f l,none⟩::r) Q env h:=by
 subst ha
 simp only[List.all_map,Function.comp_def]at hv
 simp only[bM,CO,bE]
 exact⟨hv,k⟩
theorem F0 {F:bT}{r:List bF}{Q:Env→ac→Prop}{env:Env}{h:ac}{d id off m:Nat}{x:bt}{cs:List AV}(hx:ev env x = .ptr id 0 off)(hg:h.get id=some (.cells 0 cs))(hm:cs[off]?=some (AV.map m))(k:aw F r Q (env.put d (.map m)) h):aw F (⟨some d,.loadm false x,none⟩::r) Q env h:=by
 have hl:=(List.getElem?_eq_some_iff.1 hm).1
 simp only[bM,CN,bf,hx,hg]
 rw[if_pos ⟨trivial,(fun h:false=true=>trivial),hl⟩,List.getD_eq_getElem?_getD,hm]
 exact k
attribute [local irreducible] aw bg bm dg bz cw dO bH wop cz a8
set_option maxRecDepth 100000 in
theorem Cl {Φ:Lib}(L:fd Φ){h:ac}{c:cQ}{iM imN imO:Nat}{x:Dfa}{Rs:List (List ju)}{vR vN vT vW:AV}{ws:List AV}{D:List (List Int)}{T:List Int}{W:List (List Way)}{eN eO:List (AV×AV)}(hS:Sep h (chM c iM imN imO x Rs vR vN vT vW ws D T W eN eO))(l:List Way)(tag:Int)(hD:D.length=W.length)(hT:T.length=W.length)(hW:W.length≤1073741824)(hws:∀ w∈ws,∃ id g,w = .own id g 1 0 256 none) :
  a8 Φ 278 [.ptr iM 0 0,vP l,.int .i64 tag] h (fun r h'=>(r = .int .i64 W.length∧HO h h')∧∃ (vN' vT' vW' w:AV),(∃ id g,w = .own id g 1 0 256 none)∧Sep h' (chM c iM imN imO x Rs vR vN' vT' vW' (ws++[w]) (D++[List.replicate 256 (-1)]) (T++[tag]) (W++[l]) eN eO)):=by
 have hM:h.get iM=some (.cells 0 (mkM x vR vN vT vW imN imO)):=hS.get (i:=2) rfl
 have hvW:aC h vW 1 W.length _:=hS.get (i:=5) rfl
 have hnW:=hvW.notTup
 refine aY (fun _=>false) rfl L.f278 ?_
 repeat' first|apply ad|(apply gw;first|refine aq rx_ ?_|(apply gq2;first|refine aO rx_ ?_|refine ar rfl hg_ (by simp) b_ pv_ ?_)|(apply jF;first|refine bp rx_ ?_|refine bn rx_ ?_)|(apply lg;first|refine cm rx_ ?_|refine ck rx_ ?_|(refine aX (m:=1) rx_ ir_ rfl rfl (by omega) ?_;intro va hpa hra hka hria))|(apply gq4;first|refine aW rx_ ?_|refine au rfl (Nat.zero_add _) ?_)|refine bq rfl ?_|refine bk (cs:=[AV.rd _ _ _]) rfl rfl ?_)|(apply gx;first|apply af|refine ae rfl ?_)|apply aa
 have hS1:=hS.upd 5 (cC va 1 (W.length+1) (W.map vP++[vP l])) rfl hra hka hria
 have hM1:hpa.get iM=some (.cells 0 (mkM x vR vN vT vW imN imO)):=hS1.get (i:=2) rfl
 refine cj (v:=va) (cs':=mkM x vR vN vT va imN imO) rfl rfl hra hM1 (by simp) rfl ?_
 have hS2:=hS1.put 2 (.cells 0 (mkM x vR vN vT va imN imO)) rfl
 have hf1:∀ k,h.get k≠none→k≠iM→vW.rowId≠some k→(hpa.set iM (.cells 0 (mkM x vR vN vT va imN imO))).get k=h.get k:=fun k hk h1 h2=>(ac.get_set_ne _ _ h1).trans (hka k hk h2)
 generalize hpa.set iM (.cells 0 (mkM x vR vN vT va imN imO))=h1 at hS2 hf1 ⊢
 clear hS1 hM1 hra hka hria
 obtain⟨vW2,rfl⟩:∃ y,y=va:=⟨_,rfl⟩
 have hM1:h1.get iM=some (.cells 0 (mkM x vR vN vT vW2 imN imO)):=hS2.get (i:=2) rfl
 have hN1:hY h1 vN [] ws (dsM D):=hS2.get (i:=0) rfl
 have hvN1:=hN1.out
 simp only[List.length_nil,Nat.zero_add,List.nil_append]at hvN1
 have hnN:=hvN1.notTup
 have hwl:ws.length=D.length:=by rw[hN1.fam.len,List.length_map]
 repeat' first|apply ad|(apply gw;first|refine aq rx_ ?_|(apply gq2;first|refine aO rx_ ?_|refine ar rfl hg_ (by simp) b_ pv_ ?_)|(apply gq4;first|refine aW rx_ ?_|refine au rfl (Nat.zero_add _) ?_|refine au rfl rfl ?_)|refine bq rfl ?_|refine bk (cs:=[AV.int _ _]) rfl rfl ?_)|(apply gx;first|apply af|refine ae rfl ?_)|apply aa
 refine yT rfl (by simp) ?_
 refine a8.mono Φ _ _ _ _ _ ?_ (ED L (-1) true)
 rintro _ h2 ⟨iw,rfl,hiw,rfl⟩
 refine⟨?_,?_⟩
 ·unfold yu
  rw[if_pos rfl]
  exact fun k o e=>(ac.get_set_ne _ _ fun e2=>by rw[e2,hiw]at e;cases e).trans e
 have hS3:=(hS2.rowF (id:=iw) (n:=256) (rs:=List.replicate 256 (AV.int .i64 (-1))) hiw List.length_replicate).perm (.swap _ _ _)
 have hf2:∀ k,h1.get k≠none→(h1.set iw (.cells 1 (List.replicate 256 (AV.int .i64 (-1))))).get k=h1.get k:=fun k hk=>ac.get_set_ne _ _ fun e=>hk (e ▸ hiw)
 generalize h1.set iw (.cells 1 (List.replicate 256 (AV.int .i64 (-1))))=h2 at hS3 hf2 ⊢
 have hN2:hY h2 vN [] ws (dsM D):=hS3.get (i:=0) rfl
 have hvN:=hN2.out
 simp only[List.length_nil,Nat.zero_add,List.nil_append]at hvN
 clear hN1 hvN1
 repeat' first|(apply gw;first|(apply jF;first|refine bp rx_ ?_|refine bn rx_ ?_)|(apply lg;first|refine cm rx_ ?_|refine ck rx_ ?_|(refine aX (m:=1) rx_ ir_ rfl rfl (by omega) ?_;intro va hpa hra hka hria))|(apply gq4;first|refine aW rx_ ?_|refine au rfl (Nat.zero_add _) ?_|refine au rfl rfl ?_)|refine bq rfl ?_|refine bk (cs:=[AV.own _ _ _ _ _ _]) rfl rfl ?_)
 have hS4:=hS3.nmoreRow hra hka hria
 have hM2:hpa.get iM=some (.cells 0 (mkM x vR vN vT vW2 imN imO)):=hS4.get (i:=2) rfl
 refine cj (v:=va) (cs':=mkM x vR va vT vW2 imN imO) rfl rfl hra hM2 (by simp) rfl ?_
 have hS5:=hS4.put 2 (.cells 0 (mkM x vR va vT vW2 imN imO)) rfl
 have hf3:∀ k,h2.get k≠none→k≠iM→vN.rowId≠some k→(hpa.set iM (.cells 0 (mkM x vR va vT vW2 imN imO))).get k=h2.get k:=fun k hk h1 h2=>(ac.get_set_ne _ _ h1).trans (hka k hk h2)
 generalize hpa.set iM (.cells 0 (mkM x vR va vT vW2 imN imO))=h3 at hS5 hf3 ⊢
 clear hS4 hM2 hra hka hria hS3 hS2 hM1 hvN hN2
 obtain⟨vN2,rfl⟩:∃ y,y=va:=⟨_,rfl⟩
 have hM1:h3.get iM=some (.cells 0 (mkM x vR vN2 vT vW2 imN imO)):=hS5.get (i:=2) rfl
 have hvT:aC h3 vT 1 T.length _:=hS5.get (i:=4) rfl
 have hnT:=hvT.notTup
 repeat' first|apply ad|(apply gw;first|refine aq rx_ ?_|(apply gq2;first|refine aO rx_ ?_|refine ar rfl hg_ (by simp) b_ pv_ ?_)|(apply jF;first|refine bp rx_ ?_|refine bn rx_ ?_)|(apply lg;first|refine cm rx_ ?_|refine ck rx_ ?_|(refine aX (m:=1) rx_ ir_ rfl rfl (by omega) ?_;intro va hpa hra hka hria))|(apply gq4;first|refine aW rx_ ?_|refine au rfl (Nat.zero_add _) ?_|refine au rfl rfl ?_)|refine bq rfl ?_|refine bk (cs:=[AV.int _ _]) rfl rfl ?_)|(apply gx;first|apply af|refine ae rfl ?_)|apply aa
 have hS6:=hS5.upd 4 (cC va 1 (T.length+1) (T.map (.int .i64)++[.int .i64 tag])) rfl hra hka hria
 have hM2:hpa.get iM=some (.cells 0 (mkM x vR vN2 vT vW2 imN imO)):=hS6.get (i:=2) rfl
 refine cj (v:=va) (cs':=mkM x vR vN2 va vW2 imN imO) rfl rfl hra hM2 (by simp) rfl ?_
 have hS7:=hS6.put 2 (.cells 0 (mkM x vR vN2 va vW2 imN imO)) rfl
 have hf4:∀ k,h3.get k≠none→k≠iM→vT.rowId≠some k→(hpa.set iM (.cells 0 (mkM x vR vN2 va vW2 imN imO))).get k=h3.get k:=fun k hk h1 h2=>(ac.get_set_ne _ _ h1).trans (hka k hk h2)
 generalize hpa.set iM (.cells 0 (mkM x vR vN2 va vW2 imN imO))=h4 at hS7 hf4 ⊢
 clear hS6 hM2 hra hka hria hS5 hM1 hvT
 obtain⟨vT2,rfl⟩:∃ y,y=va:=⟨_,rfl⟩
 have hM1:h4.get iM=some (.cells 0 (mkM x vR vN2 vT2 vW2 imN imO)):=hS7.get (i:=2) rfl
 have hvW2:aC h4 vW2 1 (W.length+1) _:=hS7.get (i:=5) rfl
 repeat' first|apply ad|(apply gw;first|refine aq rx_ ?_|(apply gq2;first|refine aO rx_ ?_|refine ar rfl hg_ (by simp) b_ pv_ ?_)|(apply gq3;first|refine aD rx_ ?_|refine eS rfl rfl rfl (by omega) (by omega) ?_)|(apply gq6;first|refine bU rx_ ?_|refine eL rx_ (by assumption) ?_)|(apply gq4;first|refine aW rx_ ?_|refine au rfl (Nat.zero_add _) ?_)|refine bq rfl ?_)|(apply gx;first|apply af|refine ae rfl ?_|apply aJ)|apply aa
 refine aH rfl ⟨⟨?_,?_⟩,vN2,vT2,vW2,_,⟨iw,1,rfl⟩,?_⟩
 ·exact congrArg (AV.int .i64) (by omega)
 ·intro id g cs off m hid hm
  by_cases hk1:id=iM
  ·subst hk1
   rw[hM]at hid
   injection hid with hid
   injection hid with e1 e2
   subst e1 e2
   refine⟨_,hM1,?_⟩
   have hlt:=(List.getElem?_eq_some_iff.1 hm).1
   have hlt2:off<9:=hlt
   have q3:aC h vR 1 Rs.length _:=hS.get (i:=3) rfl
   have q4:hY h vN [] ws (dsM D):=hS.get (i:=0) rfl
   have q5:aC h vT 1 T.length _:=hS.get (i:=4) rfl
   have q6:aC h vW 1 W.length _:=hS.get (i:=5) rfl
   have hc:off=0∨off=1∨off=2∨off=3∨off=4∨off=5∨off=6∨off=7∨off=8:=by omega
   rcases hc with rfl|rfl|rfl|rfl|rfl|rfl|rfl|rfl|rfl
   ·cases hm
   ·cases hm
   ·cases hm
   ·injection hm with hm;exact(q3.notMap hm).elim
   ·injection hm with hm;exact(q4.out.notMap hm).elim
   ·injection hm with hm;exact(q5.notMap hm).elim
   ·injection hm with hm;exact(q6.notMap hm).elim
   ·exact hm
   ·exact hm
  ·have hne:h.get id≠none:=by rw[hid];simp
   have q4:hY h vN [] ws (dsM D):=hS.get (i:=0) rfl
   have q5:aC h vT 1 T.length _:=hS.get (i:=4) rfl
   have q6:aC h vW 1 W.length _:=hS.get (i:=5) rfl
   have hkW:vW.rowId≠some id:=fun e=>by
    have e2:=q6.cells_of e hid
    rw[e2,List.getElem?_map,Option.map_eq_some_iff]at hm
    obtain⟨_,_,hm⟩:=hm
    cases hm
   have hkN:vN.rowId≠some id:=fun e=>by
    have e2:=q4.out.cells_of e hid
    rw[e2,List.nil_append]at hm
    obtain⟨_,_,hm⟩:=hws _ (List.mem_of_getElem? hm)
    cases hm
   have hkT:vT.rowId≠some id:=fun e=>by
    have e2:=q5.cells_of e hid
    rw[e2,List.getElem?_map,Option.map_eq_some_iff]at hm
    obtain⟨_,_,hm⟩:=hm
    cases hm
   have g1:=hf1 id hne hk1 hkW
   have g2:=hf2 id (by rw[g1];exact hne)
   have g3:=hf3 id (by rw[g2,g1];exact hne) hk1 hkN
   have g4:=hf4 id (by rw[g3,g2,g1];exact hne) hk1 hkT
   exact⟨cs,by rw[g4,g3,g2,g1];exact hid,hm⟩
 ·have e1:dsM (D++[List.replicate 256 (-1)])=dsM D++[(1,256,List.replicate 256 (AV.int .i64 (-1)))]:=by
   rw[dsM,List.map_append,List.map_singleton,List.length_replicate,List.map_replicate]
  unfold chM
  rw[e1,List.length_append,List.length_append,List.map_append,List.map_append]
  exact hS7
end
section
open Go
set_option maxHeartbeats 4000000
def fN (a:RSt):Option AV:=if a.1<0 then some (.str (gU a.2)) else none
def fO (a:RSt):Option AV:=if a.1<0 then none else some (.int .i64 a.1)
structure OkR (d:PD)(a:RSt):Prop where
 inr:InR d a
 wb:∀ w∈eo d a,BN w∧w.1≠[]
 len:(eo d a).length≤4194304
theorem Bs {d:PD}{a b:RSt}(ha:InR d a)(hb:InR d b){key:AV}(h1:fO a=some key)(h2:fO b=some key):b=a:=by
 unfold fO at h1 h2
 split at h1
 ·cases h1
 ·split at h2
  ·cases h2
  ·injection h1 with h1
   injection h2 with h2
   have e:=h1.trans h2.symm
   injection e with _ e
   rcases ha with⟨_,a2⟩|⟨a1,_⟩
   ·rcases hb with⟨_,b2⟩|⟨b1,_⟩
    ·exact Prod.ext e.symm (b2.trans a2.symm)
    ·omega
   ·omega
theorem Hc {d:PD}{a b:RSt}(ha:OkR d a)(hb:OkR d b){key:AV}(h1:fN a=some key)(h2:fN b=some key):b=a:=by
 unfold fN at h1 h2
 split at h1
 ·rename_i ha0
  split at h2
  ·rename_i hb0
   injection h1 with h1
   injection h2 with h2
   have e:=h1.trans h2.symm
   injection e with e
   have a1:a.1 = -1:=by
    rcases ha.inr with⟨⟨q,_⟩,_⟩|⟨q,_⟩<;>omega
   have b1:b.1 = -1:=by
    rcases hb.inr with⟨⟨q,_⟩,_⟩|⟨q,_⟩<;>omega
   have wa:=ha.wb
   have wb:=hb.wb
   unfold eo at wa wb
   rw[if_pos ha0]at wa
   rw[if_pos hb0]at wb
   exact Prod.ext (b1.trans a1.symm) (wB (fun w hw=>(wb w hw).1) (fun w hw=>(wa w hw).1) e.symm)
  ·cases h2
 ·cases h1
theorem tq {α:Type}[DecidableEq α]{L:List α}{a:α}(h:a∈L):cE L (some a)=L:=by
 show(if a∈L then L else L++[a])=L
 rw[if_pos h]
theorem pJ {α:Type}[DecidableEq α]{L:List α}{a:α}(h:a∉L):cE L (some a)=L++[a]:=by
 show(if a∈L then L else L++[a])=_
 rw[if_neg h]
theorem t9 {α:Type}[DecidableEq α]{L:List α}{a:α}(h:a∉L):gR (L++[a]) (some a)=(L.length:Nat):=by
 show(((L++[a]).idxOf a:Nat):Int)=_
 rw[List.idxOf_append,if_neg h]
 simp
theorem Fx {α:Type}[DecidableEq α]{f:α→Option AV}{a:α}{key:AV}(ha:f a=some key){A:List α}(hn:a∉A)(h:∀ b∈A,f b=some key→b=a):iL (ig f 0 (A++[a])) key=some (.int .i64 (A.length:Nat)):=by
 rw[mw ha (A++[a]) 0 fun b hb e=>by
  rcases List.mem_append.1 hb with hb|hb
  ·exact h b hb e
  ·simpa using hb]
 rw[if_pos (by simp),List.idxOf_append,if_neg hn]
 simp
@[reducible] def si (w:AV):Prop:=∃ id g,w = .own id g 1 0 256 none
@[reducible] def chA (c:cQ)(iM imN imO:Nat)(x:Dfa)(Rs:List (List ju))(vR vN vT vW:AV)(ws:List AV)(D:List (List Int))(d:PD)(A:List RSt):List cQ :=
 chM c iM imN imO x Rs vR vN vT vW ws D (A.map (nO d)) (A.map (eo d)) (ig fN 0 A) (ig fO 0 A)
def kn (D:List (List Int))(n m:Nat):List (List Int):=D++List.replicate (m-n) (List.replicate 256 (-1))
def nT (p:List ai×Int):List Way:=if p.2 = -1 then [] else(dh p.1).map fun r=>(r,p.2)
theorem yE (parts:List (List ai))(next:List Int):cN parts next=(parts.zip next).flatMap nT:=rfl
theorem CT {l:List (List ai×Int)}{k:Nat}{p:List ai×Int}(h:l[k]?=some p):(l.take (k+1)).flatMap nT=(l.take k).flatMap nT++nT p:=by
 rw[aS h,List.flatMap_append]
 simp
attribute [local irreducible] aw bg bm dg bz cw dO bH wop cz a8
set_option maxRecDepth 100000 in
theorem v9 {Φ:Lib}(L:fd Φ){h:ac}{c:cQ}{iM imN imO:Nat}{x:Dfa}{vR vN vT vW:AV}{ws:List AV}{D:List (List Int)}{d:PD}{A:List RSt}(hd:d.Ok)(hx:x.plain=d)(hS:Sep h (chA c iM imN imO x (d.parts.map dh) vR vN vT vW ws D d A))(hA:∀ a∈A,OkR d a)(hD:D.length=A.length)(hAl:A.length≤1073741824)(hws:∀ w∈ws,si w)(i:Int)(hi:In d.n i)(hR:OkR d (i,[])) :
  a8 Φ 268 [.ptr iM 0 0,.int .i64 i] h (fun r h'=>r = .int .i64 (gR (cE A (some (i,[]))) (some (i,[])))∧∃ (vN' vT' vW':AV) (ws':List AV),(∀ w∈ws',si w)∧Sep h' (chA c iM imN imO x (d.parts.map dh) vR vN' vT' vW' ws' (kn D A.length (cE A (some (i,[]))).length) d (cE A (some (i,[]))))):=by
 have hM:h.get iM=some (.cells 0 (mkM x vR vN vT vW imN imO)):=hS.get (i:=2) rfl
 have hO:h.get imO=some (.map (some .i64) (ig fO 0 A)):=hS.get (i:=7) rfl
 have hi0:=hi.1
 have hi1:=hi.2
 obtain⟨q,rfl⟩:∃ q:Nat,i=(q:Int):=⟨i.toNat,by omega⟩
 have htl:x.tags.l.length=d.n:=by rw[← hx];rfl
 have hnl:x.next.l.length=d.n:=by rw[← hd.nl,← hx];simp[Dfa.plain,cS]
 have hfO:fO ((q:Int),[])=some (.int .i64 q):=by unfold fO;rw[if_neg (by simp only;omega)]
 have hlk:=mw hfO A 0 fun b hb e=>Bs hR.inr (hA b hb).inr hfO e
 refine aY (fun o=>o == some 59) rfl L.f268 ?_
 repeat' first|apply ad|(apply gw;first|refine aq rx_ ?_|(apply gq2;first|refine aO rx_ ?_|refine ar rfl hg_ (by simp) b_ pv_ ?_)|(apply gq4;first|refine aW rx_ ?_|refine au rfl (Nat.zero_add _) ?_)|refine bq rfl ?_)|(apply gx;first|apply af|refine ae rfl ?_)|apply aa
 refine jh (key:=AV.int .i64 q) rfl rfl rfl hO ?_
 rw[hlk]
 by_cases hmem:(((q:Int),[]):RSt)∈A
 ·rw[if_pos hmem]
  have hv:cE A (some (((q:Int),[]):RSt))=A:=tq hmem
  rw[hv]
  repeat' first|apply ad|(apply gw;first|refine aq rx_ ?_|refine ci rfl rfl ?_)|(apply gx;first|apply af|refine ae rfl ?_|apply aJ|refine ak rfl ?_)|apply aa|apply cu
  refine aH rfl ⟨?_,vN,vT,vW,ws,hws,?_⟩
  ·rw[Nat.zero_add];rfl
  ·rw[kn,Nat.sub_self,List.replicate_zero,List.append_nil];exact hS
 ·rw[if_neg hmem]
  have hv:cE A (some (((q:Int),[]):RSt))=A++[((q:Int),[])]:=pJ hmem
  rw[hv]
  obtain⟨r,hr⟩:=aK (l:=x.next.l) (i:=q) (by rw[hnl];omega)
  have hrl:r.l=d.row q:=by rw[← hx];simp[PD.row,Dfa.plain,cS,hr]
  have hrk:r.l.length=d.parts.length:=by rw[hrl];exact hd.tab.len q hi
  have hp2:d.parts.length≤2000:=hd.p1
  have hz:(d.parts.zip r.l).length=r.l.length:=by rw[List.length_zip];omega
  have hwl:(eo d ((q:Int),[]))=(d.parts.zip r.l).flatMap nT:=by
   rw[hrl,← yE]
   unfold eo
   rw[if_neg (by simp only;omega)]
  have hlen:=hR.len
  rw[hwl]at hlen
  have hlk2:∀ k,((d.parts.zip r.l).take k).flatMap nT <+: (d.parts.zip r.l).flatMap nT:=fun k=>by
   conv=>rhs;rw[← List.take_append_drop k (d.parts.zip r.l),List.flatMap_append]
   exact List.prefix_append _ _
  repeat' first|apply ad|(apply gw;first|refine aq rx_ ?_|(apply gq2;first|refine aO rx_ ?_|refine aB rfl b_ pv_ ?_|refine ar rfl hg_ (by simp) b_ pv_ ?_)|(apply gq5;first|refine bb rx_ ?_|refine bd rx_ ?_|refine aj rfl rfl hr (by omega) rfl ?_)|(apply gq6;first|refine bU rx_ ?_|refine az rfl ?_)|(apply gq4;first|refine aW rx_ ?_|refine au rfl (Nat.zero_add _) ?_)|refine bq rfl ?_|refine ci rfl rfl ?_)|(apply gx;first|apply af|refine ae rfl ?_|apply ay|apply al|refine ah rfl ?_)|apply aa
  refine bG r.l.length (fun k env h'=>∃ v,Sep h' (chA c iM imN imO x (d.parts.map dh) vR vN vT vW ws D d A++[cC v 2 (((d.parts.zip r.l).take k).flatMap nT).length ((((d.parts.zip r.l).take k).flatMap nT).flatMap nL)])∧env.has [(0,.ptr iM 0 0),(1,.int .i64 q),(7,v),(30,r.iv),(31,.int .i64 r.l.length),(32,.int .i64 k)]) ⟨_,hS.nil 2,hh_⟩ ?_
  clear hS hM hO
  rintro k env h' hk ⟨v,hS,he⟩
  obtain⟨env,rfl⟩:=he.ex
  clear he
  have hM:h'.get iM=some (.cells 0 (mkM x vR vN vT vW imN imO)):=hS.get (i:=2) rfl
  have hvR:aC h' vR 1 (d.parts.map dh).length _:=hS.get (i:=3) rfl
  have hv:aC h' v 2 _ _:=hS.get (i:=8) rfl
  have hnt:=hv.notTup
  by_cases hk2:k<r.l.length
  ·obtain⟨to,hto⟩:=aK hk2
   obtain⟨p,hp⟩:=aK (l:=d.parts) (i:=k) (by omega)
   have hzk:(d.parts.zip r.l)[k]?=some (p,to):=List.getElem?_zip_eq_some.2 ⟨hp,hto⟩
   have hsn:=CT hzk
   have hRk:(d.parts.map dh)[k]?=some (dh p):=by rw[List.getElem?_map,hp];rfl
   have hpre:=(hlk2 (k+1)).length_le
   rw[hsn,List.length_append]at hpre
   by_cases hto1:to = -1
   ·subst hto1
    have hwf:nT (p,-1)=[]:=by unfold nT;rw[if_pos rfl]
    rw[hwf,List.append_nil]at hsn
    repeat' first|apply ad|(apply gw;first|refine aq rx_ ?_|(apply gq2;first|refine aO rx_ ?_|refine aB rfl b_ pv_ ?_)|(apply gq3;first|refine aD rx_ ?_|refine ba rx_ ?_|refine aQ rfl rfl rfl (by omega) (by omega) ?_|(refine aA rfl rfl rfl ?_ ?_<;>(intro hc;try (exfalso;omega)))|(refine cq rfl rfl rfl ?_ ?_<;>(intro hc;try (exfalso;omega))))|(apply gq5;first|refine bb rx_ ?_|refine bd rx_ ?_|refine aj rfl rfl hto (by omega) rfl ?_))|(apply gx;first|apply af|refine ae rfl ?_|apply ay|apply al|apply aL|refine ak rfl ?_)|apply aa|apply aM|apply aN
    refine aP hk2 ⟨v,?_,hh_⟩
    rw[hsn]
    exact hS
   ·have hwf:nT (p,to)=(dh p).map fun r=>(r,to):=by unfold nT;rw[if_neg hto1]
    rw[hwf]at hsn hpre
    rw[List.length_map]at hpre
    have hnR:=hvR.notTup
    have hRl:(d.parts.map dh).length=d.parts.length:=List.length_map _
    repeat' first|apply ad|(apply gw;first|refine aq rx_ ?_|(apply gq2;first|refine aO rx_ ?_|refine eE (g:=_) rfl hg_ hRk eq_ ?_|refine aB rfl b_ pv_ ?_|refine ar rfl hg_ (by simp) b_ pv_ ?_)|(apply gq3;first|refine aD rx_ ?_|refine ba rx_ ?_|(refine aA rfl rfl rfl ?_ ?_<;>(intro hc;try (exfalso;omega)))|(refine cq rfl rfl rfl ?_ ?_<;>(intro hc;try (exfalso;omega))))|(apply gq5;first|refine bb rx_ ?_|refine bd rx_ ?_|refine aj rfl rfl hto (by omega) rfl ?_|(refine cW rx_ (by assumption) rfl (by omega) (by omega) ?_;intro ir gr hvr hgr hgp;have hner:=ac.ne_of hgr;have hner2:=ac.ne_of2 hgr))|(apply gq6;first|refine bU rx_ ?_|refine az rfl ?_)|(apply gq4;first|refine aW rx_ ?_|refine au rfl (Nat.zero_add _) ?_)|refine bq rfl ?_)|(apply gx;first|apply af|refine ae rfl ?_|apply ay|apply al|refine ak rfl ?_|refine ah rfl ?_)|apply aa
    generalize ((d.parts.zip r.l).take k).flatMap nT=lk at *
    refine bG (dh p).length (fun j env h'=>∃ v,Sep h' (chA c iM imN imO x (d.parts.map dh) vR vN vT vW ws D d A++[cC v 2 (lk++((dh p).take j).map fun r=>(r,to)).length ((lk++((dh p).take j).map fun r=>(r,to)).flatMap nL)])∧env.has [(0,.ptr iM 0 0),(1,.int .i64 q),(7,v),(9,.int .i64 to),(30,r.iv),(31,.int .i64 r.l.length),(32,.int .i64 k),(45,B4 (dh p)),(46,.int .i64 (dh p).length),(47,.int .i64 j)]) ⟨v,by rw[List.take_zero,List.map_nil,List.append_nil];exact hS,hh_⟩ ?_
    clear hS hM hvR hv hnt hnR hvr hgr hgp hner hner2
    rintro j env h' hj ⟨v,hS,he⟩
    obtain⟨env,rfl⟩:=he.ex
    clear he
    have hv:aC h' v 2 _ _:=hS.get (i:=8) rfl
    have hnt:=hv.notTup
    have hjl:(lk++((dh p).take j).map fun r=>(r,to)).length=lk.length+j:=by rw[List.length_append,List.length_map,List.length_take];omega
    by_cases hj2:j<(dh p).length
    ·obtain⟨rw_,hrw⟩:=aK hj2
     rw[hjl]at hv
     repeat' first|apply ad|(apply gw;first|refine aq rx_ ?_|(apply gq2;first|refine aO rx_ ?_|refine aB rfl b_ pv_ ?_)|(apply gq3;first|refine aD rx_ ?_|refine ba rx_ ?_|refine aQ rfl rfl rfl (by omega) (by omega) ?_|(refine aA rfl rfl rfl ?_ ?_<;>(intro hc;try (exfalso;omega))))|(apply gq5;first|refine bb rx_ ?_|refine bd rx_ ?_|refine aj rfl rfl hrw (by omega) rfl ?_)|(apply lg;first|refine cm rx_ ?_|refine ck rx_ ?_|(refine aX (m:=1) rx_ ir_ rfl rfl (by omega) ?_;intro va hpa hra hka hria))|refine cJ rfl ?_|refine bk rfl rfl ?_)|(apply gx;first|apply af|refine ae rfl ?_|apply ay|apply al|refine ak rfl ?_)|apply aa|apply aF
     have hS1:=hS.upd 8 (cC va 2 (lk.length+j+1) (((lk++((dh p).take j).map fun r=>(r,to)).flatMap nL)++nL (rw_,to))) rfl hra (by rw[← hjl]at *;exact hka) hria
     refine aP hj2 ⟨va,?_,hh_⟩
     rw[aS hrw,List.map_append,← List.append_assoc,List.length_append,hjl,List.flatMap_append]
     simpa using hS1
    ·repeat' first|apply ad|(apply gw;first|refine aq rx_ ?_|(apply gq3;first|refine aD rx_ ?_|refine ba rx_ ?_|refine aQ rfl rfl rfl (by omega) (by omega) ?_|(refine aA rfl rfl rfl ?_ ?_<;>(intro hc;try (exfalso;omega)))))|(apply gx;first|apply af|refine ae rfl ?_|apply aL|refine ah rfl ?_)|apply aa|apply aM|apply aF|apply aN|apply aR
     rw[List.take_of_length_le (by omega)]at hS
     refine aP hk2 ⟨v,?_,hh_⟩
     rw[hsn]
     exact hS
  ·have hpre:=hlk2 k
   rw[List.take_of_length_le (by omega)]at hS hv
   rw[← hwl]at hS hv hlen
   repeat' first|apply ad|(apply gq3;first|refine aD rx_ ?_|refine ba rx_ ?_|(refine aA rfl rfl rfl ?_ ?_<;>(intro hc;try (exfalso;omega))))|(apply gx;first|apply af|refine ae rfl ?_|apply aL|refine ah rfl ?_)|apply aa|apply aM|apply aN|apply aR
   refine ga 7 (v:=v) rfl rfl hv ?_
   intro h2 hk2
   have hS2:=hS.drop 8 (h':=h2) rfl hk2
   clear hS hM hvR hv hnt hk2
   have hM:h2.get iM=some (.cells 0 (mkM x vR vN vT vW imN imO)):=hS2.get (i:=2) rfl
   obtain⟨t,ht⟩:=aK (l:=x.tags.l) (i:=q) (by rw[htl];omega)
   have htag:nO d ((q:Int),[])=t:=by
    unfold nO
    rw[if_neg (by simp only;omega),← hx]
    simp[PD.tag,Dfa.plain,ht]
   repeat' first|(apply gw;first|refine aq rx_ ?_|(apply gq4;first|refine aW rx_ ?_|refine au rfl (Nat.zero_add _) ?_)|refine bq rfl ?_)
   refine F0 (off:=8) rfl hM rfl ?_
   repeat' first|(apply gw;first|refine aq rx_ ?_|(apply gq2;first|refine aO rx_ ?_|refine aB rfl b_ pv_ ?_|refine ar rfl hg_ (by simp) b_ pv_ ?_)|(apply gq5;first|refine bb rx_ ?_|refine bd rx_ ?_|refine aj rfl rfl ht (by omega) rfl ?_)|(apply gq4;first|refine aW rx_ ?_|refine au rfl (Nat.zero_add _) ?_)|refine bq rfl ?_)
   refine yT rfl (by simp) ?_
   refine a8.mono Φ _ _ _ _ _ ?_ (Cl L hS2 (eo d ((q:Int),[])) t (by simpa using hD) (by simp) (by simpa using hAl) hws)
   rintro _ h3 ⟨⟨rfl,hkm⟩,vN2,vT2,vW2,w,hw,hS3⟩
   refine⟨by unfold yu;rw[if_neg (by decide)];exact hkm,?_⟩
   rw[List.length_map]
   have hO3:h3.get imO=some (.map (some .i64) (ig fO 0 A)):=hS3.get (i:=7) rfl
   skip
   refine gQ (key:=AV.int .i64 q) (v:=AV.int .i64 A.length) rfl rfl rfl rfl rfl hO3 ?_
   have he2:=qg hfO A 0 (fun b hb e=>hmem (by rw[← Bs hR.inr (hA b hb).inr hfO e];exact hb))
   rw[Nat.zero_add]at he2
   rw[he2]
   have hS4:=hS3.put 7 (.map (some .i64) (ig fO 0 (A++[((q:Int),[])]))) rfl
   generalize h3.set imO _=h4 at hS4 ⊢
   have hM4:h4.get iM=some (.cells 0 (mkM x vR vN2 vT2 vW2 imN imO)):=hS4.get (i:=2) rfl
   have hO4:h4.get imO=some (.map (some .i64) (ig fO 0 (A++[((q:Int),[])]))):=hS4.get (i:=7) rfl
   clear hS3 hO3 hS2 hM hkm
   have hlk3:=Fx hfO (A:=A) hmem fun b hb e=>Bs hR.inr (hA b hb).inr hfO e
   repeat' first|apply ad|(apply gw;first|refine aq rx_ ?_|(apply gq2;first|refine aO rx_ ?_|refine ar rfl hg_ (by simp) b_ pv_ ?_)|(apply gq4;first|refine aW rx_ ?_|refine au rfl (Nat.zero_add _) ?_)|refine bq rfl ?_)|(apply gx;first|apply af|refine ae rfl ?_)|apply aa
   refine wc (key:=AV.int .i64 q) rfl rfl rfl hO4 ?_
   rw[hlk3]
   repeat' first|apply ad|refine aq rx_ ?_|apply aJ|apply aa
   refine aH rfl ⟨?_,vN2,vT2,vW2,ws++[w],?_,?_⟩
   ·rw[t9 hmem];rfl
   ·intro y hy
    rcases List.mem_append.1 hy with hy|hy
    ·exact hws y hy
    ·simp only[List.mem_singleton]at hy;subst hy;exact hw
   ·have e1:kn D A.length (A++[((q:Int),[])]).length=D++[List.replicate 256 (-1)]:=by
     rw[kn,List.length_append,List.length_singleton,Nat.add_sub_cancel_left,List.replicate_one]
    unfold chA
    rw[e1,List.map_append,List.map_append,List.map_singleton,List.map_singleton,htag,qc fN _ A 0 (by unfold fN;rw[if_neg (by simp only;omega)])]
    exact hS4
end
section
open Go
set_option maxHeartbeats 4000000
attribute [local irreducible] aw bg bm dg bz cw dO bH wop cz a8
set_option maxRecDepth 100000 in
theorem HI {Φ:Lib}(L:fd Φ)(L3:cP Φ){h:ac}{c:cQ}{iM imN imO:Nat}{x:Dfa}{Rs:List (List ju)}{vR vN vT vW:AV}{ws:List AV}{D:List (List Int)}{d:PD}{A:List RSt}(hS:Sep h (chA c iM imN imO x Rs vR vN vT vW ws D d A))(hA:∀ a∈A,OkR d a)(hD:D.length=A.length)(hAl:A.length≤1073741824)(hws:∀ w∈ws,si w)(l:List Way)(hR:OkR d (-1,l)) :
  a8 Φ 279 [.ptr iM 0 0,vP l] h (fun r h'=>r = .int .i64 (gR (cE A (some (-1,l))) (some (-1,l)))∧∃ (vN' vT' vW':AV) (ws':List AV),(∀ w∈ws',si w)∧Sep h' (chA c iM imN imO x Rs vR vN' vT' vW' ws' (kn D A.length (cE A (some (-1,l))).length) d (cE A (some (-1,l))))):=by
 have hM:h.get iM=some (.cells 0 (mkM x vR vN vT vW imN imO)):=hS.get (i:=2) rfl
 have hN:h.get imN=some (.map none (ig fN 0 A)):=hS.get (i:=6) rfl
 have hfN:fN (-1,l)=some (.str (gU l)):=by unfold fN;rw[if_pos (by simp only;omega)]
 have hwy:eo d (-1,l)=l:=by unfold eo;rw[if_pos (by simp only;omega)]
 have hty:nO d (-1,l) = -1:=by unfold nO;rw[if_pos (by simp only;omega)]
 have hlen:=hR.len
 have hwb:=hR.wb
 rw[hwy]at hlen hwb
 have hlk:=mw hfN A 0 fun b hb e=>Hc hR (hA b hb) hfN e
 have hnm:=Iq L L3 l false hlen (fun w hw=>(hwb w hw).1)
 refine aY (fun o=>false) rfl L.f279 ?_
 repeat' first|apply ad|(apply gw;first|refine aq rx_ ?_|(apply gq2;first|refine aO rx_ ?_|refine ar rfl hg_ (by simp) b_ pv_ ?_)|(apply gq4;first|refine aW rx_ ?_|refine au rfl (Nat.zero_add _) ?_)|refine bq rfl ?_|refine aI rfl nt_ ?_)|(apply gx;first|apply af|refine ae rfl ?_)|apply aa|refine aU (by assumption) fz_ fz_ ?_
 refine jh (key:=AV.str (gU l)) rfl rfl rfl hN ?_
 rw[hlk]
 by_cases hmem:((-1,l):RSt)∈A
 ·rw[if_pos hmem]
  rw[tq hmem]
  repeat' first|apply ad|(apply gw;first|refine aq rx_ ?_|refine dp (b:=true) rfl ?_|refine ci rfl rfl ?_)|(apply gx;first|apply af|refine ae rfl ?_|apply ay|apply aJ|refine ah rfl ?_)|apply aa
  refine aH rfl ⟨?_,vN,vT,vW,ws,hws,?_⟩
  ·rw[Nat.zero_add];rfl
  ·rw[kn,Nat.sub_self,List.replicate_zero,List.append_nil];exact hS
 ·rw[if_neg hmem]
  rw[pJ hmem]
  repeat' first|apply ad|(apply gw;first|refine aq rx_ ?_|refine aI rfl nt_ ?_|refine dp (b:=false) rfl ?_|refine ci rfl rfl ?_)|(apply gx;first|apply af|refine ae rfl ?_|refine ak rfl ?_)|apply aa
  refine cd (Cl L hS l (-1) (by simpa using hD) (by simp) (by simpa using hAl) hws) ?_
  rintro _ h3 ⟨⟨rfl,hkm⟩,vN2,vT2,vW2,w,hw,hS3⟩
  rw[List.length_map]
  have hM3:h3.get iM=some (.cells 0 (mkM x vR vN2 vT2 vW2 imN imO)):=hS3.get (i:=2) rfl
  have hN3:h3.get imN=some (.map none (ig fN 0 A)):=hS3.get (i:=6) rfl
  repeat' first|apply ad|(apply gw;first|refine aq rx_ ?_|(apply gq2;first|refine aO rx_ ?_|refine ar rfl hg_ (by simp) b_ pv_ ?_)|(apply gq4;first|refine aW rx_ ?_|refine au rfl (Nat.zero_add _) ?_)|refine bq rfl ?_)|refine ae rfl ?_|apply aa
  refine gQ (key:=AV.str (gU l)) (v:=AV.int .i64 A.length) rfl rfl rfl rfl rfl hN3 ?_
  have he2:=qg hfN A 0 (fun b hb e=>hmem (by rw[← Hc hR (hA b hb) hfN e];exact hb))
  rw[Nat.zero_add]at he2
  rw[he2]
  have hS4:=hS3.put 6 (.map none (ig fN 0 (A++[(-1,l)]))) rfl
  generalize h3.set imN _=h4 at hS4 ⊢
  repeat' first|apply ad|refine aq rx_ ?_|(apply gx;first|apply af|refine ae rfl ?_|apply aJ)|apply aa
  refine aH rfl ⟨?_,vN2,vT2,vW2,ws++[w],?_,?_⟩
  ·rw[t9 hmem];rfl
  ·intro y hy
   rcases List.mem_append.1 hy with hy|hy
   ·exact hws y hy
   ·simp only[List.mem_singleton]at hy;subst hy;exact hw
  ·have e1:kn D A.length (A++[(-1,l)]).length=D++[List.replicate 256 (-1)]:=by
    rw[kn,List.length_append,List.length_singleton,Nat.add_sub_cancel_left,List.replicate_one]
   unfold chA
   rw[e1,List.map_append,List.map_append,List.map_singleton,List.map_singleton,hty,hwy,qc fO _ A 0 (by unfold fO;rw[if_pos (by simp only;omega)])]
   exact hS4
end
end Go.Proofs.YtlnobeojgifojaaGreatDoor
