/- Rows that grow, and loops over functions, in the abstract machine. -/
import Derived.Test.YtlnobeojgifojaaGreatDoorB1
set_option linter.unusedVariables false
namespace Go.Proofs.YtlnobeojgifojaaGreatDoor
section
open Go
def aD (h:ad)(v:AV)(e n:Nat)(cs:List AV):Prop :=
 (v = .rd 0 [] true∧n=0∧cs=[])∨∃ id g,v = .own id g e 0 n none∧h.get id=some (.cells g cs)∧1≤g∧cs.length=n*e
def AV.rowId:AV→Option Nat
 | .own id _ _ _ _ _=>some id
 | _=>none
theorem aD.nil (h:ad)(e:Nat):aD h (.rd 0 [] true) e 0 [] := .inl ⟨rfl,rfl,rfl⟩
theorem aD.keep {h h':ad}{v e n cs}(hr:aD h v e n cs)(hk:∀ id,v.rowId=some id→h'.get id=h.get id):aD h' v e n cs:=by
 rcases hr with h1|⟨id,g,rfl,h2,h3,h4⟩
 ·exact .inl h1
 ·exact .inr ⟨id,g,rfl,(hk id rfl).trans h2,h3,h4⟩
theorem aD.there {h:ad}{v e n cs}(hr:aD h v e n cs){id:Nat}(hi:v.rowId=some id):h.get id≠none:=by
 rcases hr with⟨rfl,_⟩|⟨id',g,rfl,h2,_⟩
 ·cases hi
 ·cases hi
  rw[h2];simp
theorem aD.isVal {h:ad}{v e n cs}(hr:aD h v e n cs):v.isVal=true:=by
 rcases hr with⟨rfl,_⟩|⟨id',g,rfl,_⟩<;>rfl
theorem aD.cells {h:ad}{v e n cs}(hr:aD h v e n cs):v.cells=[v]:=by
 rcases hr with⟨rfl,_⟩|⟨id',g,rfl,_⟩<;>rfl
theorem aD.notTup {h:ad}{v e n cs}(hr:aD h v e n cs):v.isTup=false:=by
 rcases hr with⟨rfl,_⟩|⟨id',g,rfl,_⟩<;>rfl
theorem IA {v:AV}{vs:List AV}(h1:v.isTup=false)(h2:vs.all (fun v => !v.isTup)=true):(v::vs).all (fun v => !v.isTup)=true:=by
 rw[List.all_cons,h1,h2]
 rfl
theorem aD.fz {h:ad}{v e n cs cs'}(hr:aD h v e n cs)(S:Nat→Prop)(hS:∀ id,v.rowId=some id→S id)(hc:FzL h S cs cs'):FzV h S v (.rd n cs' false):=by
 rcases hr with⟨rfl,rfl,rfl⟩|⟨id,g,rfl,h2,h3,h4⟩
 ·cases hc
  exact .rd .nil (fun h=>by cases h)
 ·refine .own (hS id rfl) h2 (by rw[Nat.zero_add,h4];exact Nat.le_refl _) ?_
  rw[Nat.zero_mul,List.drop_zero,← h4,List.take_length]
  exact hc
theorem FzL.same {h:ad}{S:Nat→Prop}:∀ (cs:List AV),FzL h S cs cs
 | [] => .nil
 | c::cs => .cons (.same c) (FzL.same cs)
theorem gd {h:ad}{v e n cs}(hr:aD h v e n cs):bB h e v=some (n,cs):=by
 rcases hr with⟨rfl,rfl,rfl⟩|⟨id,g,rfl,h2,h3,h4⟩
 ·simp[bB]
 ·simp only[bB,h2]
  rw[if_pos ⟨trivial,trivial,by rw[Nat.zero_add,h4];exact Nat.le_refl _⟩,Nat.zero_mul,List.drop_zero,← h4,List.take_length]
section
variable {F:bZ} {r:List bK} {Q:Env→ad→Prop} {env:Env} {h:ad} {d:Nat} {x y z c:bA}
theorem iU {e n m:Nat}{v w:AV}{cs new:List AV}(hx:ev env x=v)(hrow:aD h v e n cs)(hy:ev env y=w)(hs:bB h e w=some (m,new))(hm:new.length=m*e)(hle:n+m≤4294967296)
  (k:∀ v' h',aD h' v' e (n+m) (cs++new)→(∀ id,h.get id≠none→v.rowId≠some id→h'.get id=h.get id)→(∀ id,v'.rowId=some id→v.rowId=some id∨h.get id=none)→az F r Q (env.put d v') h'):az F (⟨some d,.append e x y,none⟩::r) Q env h:=by
 have hmax:kH=4294967296:=rfl
 simp only[bO,kB,dr,hx,hy,hs,Option.bind_some,bH]
 rcases hrow with⟨rfl,rfl,rfl⟩|⟨id,g,rfl,h2,h3,h4⟩
 ·dsimp only
  rw[if_pos ⟨by simp,by omega⟩]
  by_cases h0:m=0
  ·subst h0
   have:new=[]:=List.eq_nil_of_length_eq_zero (by simpa using hm)
   subst this
   simp only[if_true,qw]
   exact k _ _ (.inl ⟨rfl,rfl,rfl⟩) (fun _ _ _=>rfl) (fun _ h=>by cases h)
  ·rw[if_neg h0]
   simp only[if_true,yM]
   intro id hid
   exact k _ _ (.inr ⟨id,1,rfl,ad.get_set_self _ _ _,Nat.le_refl _,by simpa using hm⟩) (fun j hj _=>ad.get_set_ne _ _ (fun e=>hj (e ▸ hid))) (fun j hj=>by cases hj;exact .inr hid)
 ·simp only[h2]
  rw[if_pos ⟨trivial,h3,trivial,by omega,by rw[Nat.zero_add,h4];exact Nat.le_refl _⟩]
  simp only[qw,Nat.zero_mul,List.drop_zero,← h4,List.take_length]
  exact k _ _ (.inr ⟨id,g+1,rfl,ad.get_set_self _ _ _,by omega,by rw[List.length_append,h4,hm,Nat.add_mul]⟩) (fun j hj hne=>ad.get_set_ne _ _ (fun e=>hne (by rw[e];rfl))) (fun j hj => .inl hj)
theorem aY {e n m:Nat}{v:AV}{cs new:List AV}{f:Bool}(hx:ev env x=v)(hrow:aD h v e n cs)(hy:ev env y = .rd m new f)(hm:new.length=m*e)(hle:n+m≤4294967296)
  (k:∀ v' h',aD h' v' e (n+m) (cs++new)→(∀ id,h.get id≠none→v.rowId≠some id→h'.get id=h.get id)→(∀ id,v'.rowId=some id→v.rowId=some id∨h.get id=none)→az F r Q (env.put d v') h'):az F (⟨some d,.append e x y,none⟩::r) Q env h :=
 iU hx hrow hy (by simp[bB,hm]) hm hle k
theorem bh {n id g o cs v}(hx:ev env x = .ptr id g o)(hv:ev env y=v)(hg:h.get id=some (.cells g cs))(hval:v.isVal=true)(hl:v.cells.length=n)(hb:o+n≤cs.length){cs'}(hc:putCells cs o v.cells=cs')
  (k:az F r Q env (h.set id (.cells g cs'))):az F (⟨none,.store n x y,none⟩::r) Q env h:=by
 subst hv hc
 simp only[bO,ry,dr,hx,hg,sj]
 rw[if_pos ⟨trivial,hval,hl,hb⟩]
 exact k
end
theorem ad.set_set (h:ad)(i:Nat)(o o':iQ):(h.set i o).set i o'=h.set i o':=by
 have:((h.set i o).set i o').get=(h.set i o').get:=by
  funext j
  simp only[ad.set]
  split<;>rfl
 generalize hx:(h.set i o).set i o'=x at this
 generalize hy:h.set i o'=y at this
 cases x;cases y;cases this;rfl
theorem cC {F:bZ}{r:List bK}{Q:Env→ad→Prop}{env:Env}{h:ad}{x y:bA}{n id g o cs v}(hx:ev env x = .ptr id g o)(hv:ev env y=v)(hval:v.isVal=true)(hl:v.cells.length=n)(hb:o+n≤cs.length){cs'}(hc:putCells cs o v.cells=cs')
  (k:az F r Q env (h.set id (.cells g cs'))):az F (⟨none,.store n x y,none⟩::r) Q env (h.set id (.cells g cs)):=by
 refine bh hx hv (ad.get_set_self _ _ _) hval hl hb hc ?_
 rw[ad.set_set]
 exact k
def Ja (Φ:Lib)(g:Nat)(cap:List AV)(xs:List (List AV)):Prop :=
 ∀ (y:Nat) (J:Nat→(Nat→Prop)→ad→Prop),
  (∀ i D h h',J i D h→(∀ id,D id→h'.get id=h.get id)→J i D h') →
  (∀ i D h,J i D h→∀ id,D id→h.get id≠none) →
  (∀ i x,xs[i]?=some x→∀ D h,J i D h→bc Φ fU (.yield y::x) h (fun v h'=>v = .bool true∧(∀ id,¬ D id→h.get id≠none→h'.get id=h.get id)∧∃ D',J (i+1) D' h'∧∀ id,D' id→D id∨h.get id=none)) →
  ∀ D h,J 0 D h→bc Φ g (.yield y::cap) h (fun _ h'=>∃ D',J xs.length D' h')
theorem yT {Φ:Lib}{f:bA}{ps:List Nat}{a b:gk}{Q:Ex→Env→ad→Prop}{env:Env}{h:ad}{g:Nat}{cap:List AV}{xs:List (List AV)}(hf:ev env f = .fn g cap)(hI:Ja Φ g cap xs)
  (I:Nat→(Nat→Prop)→ad→Prop) (hst:∀ i D h h',I i D h→(∀ id,D id→h'.get id=h.get id)→I i D h') (hth:∀ i D h,I i D h→∀ id,D id→h.get id≠none)
  {D:Nat→Prop} (h0:I 0 D h) (hxs:∀ x∈xs,x.length=ps.length)
  (hround:∀ i x,xs[i]?=some x→∀ y D h,I i D h→¬ D y→h.get y≠none→bm (bc Φ) a (fun ex e h1=>ex = .norm∧h1.get y=h.get y∧∀ o,bm (bc Φ) b (fun ex _ h'=>ex = .norm∧(∀ id,¬ D id→h.get id≠none→id≠y→h'.get id=h.get id)∧h'.get y=some o∧∃ D',I (i+1) D' h'∧∀ id,D' id→D id∨h.get id=none) e (h1.set y o)) (jX env ps x) h)
  (hend:∀ D h,I xs.length D h→Q .norm env h):bm (bc Φ) (.rangef f ps a b) Q env h:=by
 have hm:=bc.mono Φ
 unfold bm
 rw[hf]
 dsimp only
 intro y hy
 have hnotD:¬ D y:=fun hD=>hth _ _ _ h0 y hD hy
 let J:Nat→(Nat→Prop)→ad→Prop:=fun i D h=>(∃ D0:Nat→Prop,(∀ id,D id↔D0 id∨id=y)∧¬ D0 y∧I i D0 h)∧h.get y=some (.loop .ready none env ps a b)
 have hrun:=hI y J ?_ ?_ ?_ (fun id=>D id∨id=y) (h.set y (.loop .ready none env ps a b)) ⟨⟨D,fun _=>Iff.rfl,hnotD,hst _ _ _ _ h0 (fun id hid=>ad.get_set_ne _ _ (fun e=>hnotD (e ▸ hid)))⟩,ad.get_set_self _ _ _⟩
 ·refine hm _ _ _ _ _ (fun v h' hJ=>?_) hrun
  obtain⟨D',⟨D0,_,hy0,hi⟩,hl⟩:=hJ
  unfold mz
  rw[hl]
  refine⟨by simp,by simp,hend D0 _ (hst _ _ _ _ hi fun id hid=>?_)⟩
  have hne:id≠y:=by rintro rfl;exact hy0 hid
  simp only[ad.drop,hne,if_false]
 ·rintro i D1 h1 h2 ⟨⟨D0,e0,hy0,hi⟩,hl⟩ hsame
  exact⟨⟨D0,e0,hy0,hst _ _ _ _ hi fun id hid=>hsame id ((e0 id).2 (.inl hid))⟩,(hsame y ((e0 y).2 (.inr rfl))).trans hl⟩
 ·rintro i D1 h1 ⟨⟨D0,e0,hy0,hi⟩,hl⟩ id hid
  rcases (e0 id).1 hid with h2|rfl
  ·exact hth _ _ _ hi id h2
  ·rw[hl];simp
 ·rintro i x hx D1 h1 ⟨⟨D0,e0,hy0,hi⟩,hl⟩
  refine bc.yield ?_
  unfold nu
  dsimp only
  rw[hl]
  refine⟨hxs x (List.mem_of_getElem? hx),?_⟩
  have hyne:h1.get y≠none:=by rw[hl];simp
  refine cK (fun _ _ _ _ h=>h) hm a (fun ex e h2 hh=>?_) (hround i x hx y D0 h1 hi hy0 hyne)
  obtain⟨h3,h4,h5⟩:=hh
  refine⟨h3,?_⟩
  unfold fB
  rw[h4,hl]
  refine⟨rfl,?_⟩
  refine cK (fun _ _ _ _ h=>h) hm b (fun ex e h6 hh=>?_) (h5 (.loop .busy none env ps a b))
  obtain⟨rfl,h7,h8,D',h9,h10⟩:=hh
  dsimp only [fB]
  rw[h8]
  have hy':¬ D' y:=fun hd=>by
   rcases h10 y hd with h|h
   ·exact hy0 h
   ·exact hyne h
  refine⟨rfl,rfl,fun id hid hne=>?_,fun id=>D' id∨id=y,⟨⟨D',fun _=>Iff.rfl,hy',hst _ _ _ _ h9 (fun id hid=>ad.get_set_ne _ _ (fun e=>hy' (e ▸ hid)))⟩,ad.get_set_self _ _ _⟩,fun id hid=>?_⟩
  ·have hiy:id≠y:=fun e=>hid ((e0 id).2 (.inr e))
   rw[ad.get_set_ne _ _ hiy]
   exact h7 id (fun hd=>hid ((e0 id).2 (.inl hd))) hne hiy
  ·rcases hid with hd|rfl
   ·rcases h10 id hd with h|h
    ·exact .inl ((e0 id).2 (.inl h))
    ·exact .inr h
   ·exact .inl ((e0 id).2 (.inr rfl))
section
variable {F:bZ} {r:List bK} {Q:Env→ad→Prop} {env:Env} {h:ad} {d:Nat} {x y z c:bA}
theorem y9 {k k' a b m}(hx:ev env x = .int k a)(hy:ev env y = .int k' b)(hm:max a b=m)(k1:az F r Q (env.put d (.int k m)) h):az F (⟨some d,.mx [x,y],none⟩::r) Q env h:=by
 subst hm
 have e:(if b>a then b else a)=max a b:=by split<;>omega
 simp only[bO,JB,List.map_cons,List.map_nil,hx,hy,ju,mR,bH,e]
 exact k1
theorem F9 {k k' a b m}(hx:ev env x = .int k a)(hy:ev env y = .int k' b)(hm:min a b=m)(k1:az F r Q (env.put d (.int k m)) h):az F (⟨some d,.mn [x,y],none⟩::r) Q env h:=by
 subst hm
 have e:(if b<a then b else a)=min a b:=by split<;>omega
 simp only[bO,JC,List.map_cons,List.map_nil,hx,hy,ju,mR,bH,e]
 exact k1
theorem wn {l e:Nat}{ag:Bool}{cs:List AV}{k:IntKind}{j:Int}{v:AV}(hx:ev env x = .agg cs)(hy:ev env y = .int k j)(h0:0≤j)(h1:j<l)(h2:j.toNat*e+e≤cs.length)(hv:part ag (j.toNat*e) e cs=v)(k1:az F r Q (env.put d v) h):az F (⟨some d,.indexA l e ag x y,none⟩::r) Q env h:=by
 subst hv
 simp only[bO,AH,a8,hx,hy,bH]
 rw[if_pos ⟨h0,h1,h2⟩]
 exact k1
theorem fP {rs}{Q:AV→ad→Prop}{v v'}(S:Nat→Prop)(hv:fm env h rs=some v)(hf:FzV h S v v')(k:Q v' (h.drop S)):dH rs Q .ret env h:=by
 simp only[Hl,hv,mR]
 exact .inr ⟨S,v',hf,k⟩
end
theorem Ic {Φ:Lib}(Z:Option Nat→Bool){c:gk}{Q:Ex→Env→ad→Prop}{env:Env}{h:ad}(hw:bf (bc Φ) Z c Q env h):bm (bc Φ) c Q env h:=kT (bc.mono Φ) c hw
end
section
open Go
theorem Hk {α:Type}{f:α→List AV}{e:Nat}(hf:∀ x,(f x).length=e){l:List α}{m k:Nat}{a:α}(ha:l[m]?=some a)(hk:k<e):(l.flatMap f)[m*e+k]?=(f a)[k]?:=by
 have:=pn f e hf l m a ha
 rw[← this,List.getElem?_take_of_lt hk,List.getElem?_drop]
theorem qi {α:Type}{f:α→List AV}{e:Nat}(hf:∀ x,(f x).length=e){l:List α}{m:Nat}{a:α}(ha:l[m]?=some a):m*e+e≤(l.flatMap f).length:=by
 have hlt:=(List.getElem?_eq_some_iff.1 ha).1
 rw[jv f e hf]
 have:=Nat.mul_le_mul_right e (show m+1≤l.length from hlt)
 rw[Nat.add_mul,Nat.one_mul]at this
 exact this
theorem z8 {α:Type}{f:α→List AV}{e:Nat}(hf:∀ x,(f x).length=e):∀ {l:List α} {m k:Nat} {a a':α} {v:AV},l[m]?=some a→k<e→(f a).set k v=f a'→(l.flatMap f).set (m*e+k) v=(l.set m a').flatMap f
 | [],_,_,_,_,_,h,_,_=>by simp at h
 | b::l,0,k,a,a',v,h,hk,ha=>by
  simp at h
  subst h
  rw[List.flatMap_cons,Nat.zero_mul,Nat.zero_add,List.set_append_left _ _ (by rw[hf];exact hk),ha]
  rfl
 | b::l,m+1,k,a,a',v,h,hk,ha=>by
  simp at h
  rw[List.flatMap_cons,Nat.add_mul,Nat.one_mul,List.set_append_right _ _ (by rw[hf];omega),List.set_cons_succ,List.flatMap_cons,hf,
   show m*e+e+k-e=m*e+k by omega,z8 hf h hk ha]
section
variable {F:bZ} {r:List bK} {Q:Env→ad→Prop} {env:Env} {h:ad} {d:Nat} {x y z c:bA}
theorem j6 {α:Type}{f:α→List AV}{l:List α}{a:α}{m e id g o:Nat}(hx:ev env x = .ptr id g o)(hg:h.get id=some (.cells g (l.flatMap f)))(ha:l[m]?=some a)(hf:∀ x,(f x).length=e)(ho:o=m*e)
  (k:az F r Q (env.put d (.agg (f a))) h):az F (⟨some d,.load false e true x,none⟩::r) Q env h :=
 am hx hg Lm (by rw[ho];exact qi hf ha) (by rw[ho];simp only[part,if_true];rw[pn f e hf l m a ha]) k
theorem pH {α:Type}{f:α→List AV}{l:List α}{a:α}{m j e id g o:Nat}{v:AV}(hx:ev env x = .ptr id g o)(hg:h.get id=some (.cells g (l.flatMap f)))(ha:l[m]?=some a)(hf:∀ x,(f x).length=e)(ho:o=m*e+j)(hj:j<e)(hv:(f a)[j]?=some v)
  (k:az F r Q (env.put d v) h):az F (⟨some d,.load false 1 false x,none⟩::r) Q env h :=
 am hx hg Lm (by have:=qi hf ha;omega) (by rw[ho];simp[part,List.getD_eq_getElem?_getD,Hk hf ha hj,hv]) k
theorem n8 {α:Type}{f:α→List AV}{l:List α}{a a':α}{m j e id g o:Nat}{v:AV}(hx:ev env x = .ptr id g o)(hv:ev env y=v)(hg:h.get id=some (.cells g (l.flatMap f)))(ha:l[m]?=some a)(hf:∀ x,(f x).length=e)(ho:o=m*e+j)(hj:j<e)(hval:v.isVal=true)(hc:v.cells=[v])(hs:(f a).set j v=f a')
  (k:az F r Q env (h.set id (.cells g ((l.set m a').flatMap f)))):az F (⟨none,.store 1 x y,none⟩::r) Q env h :=
 bh hx hv hg hval (by rw[hc];rfl) (by have:=qi hf ha;omega) (by rw[hc,ho];exact z8 hf ha hj hs) k
theorem Gb {α:Type}{f:α→AV}{l:List α}{a:α}{m id g o:Nat}(hx:ev env x = .ptr id g o)(hg:h.get id=some (.cells g (l.map f)))(ho:o=m)(ha:l[m]?=some a)
  (k:az F r Q (env.put d (f a)) h):az F (⟨some d,.load false 1 false x,none⟩::r) Q env h:=by
 have hlt:=(List.getElem?_eq_some_iff.1 ha).1
 exact am hx hg Lm (by rw[List.length_map];omega) (by rw[ho];simp[part,List.getD_eq_getElem?_getD,ha]) k
theorem rC {α:Type}{f:α→AV}{l:List α}{a':α}{m id g o:Nat}{v:AV}(hx:ev env x = .ptr id g o)(hv:ev env y=v)(hg:h.get id=some (.cells g (l.map f)))(ho:o=m)(hm:m<l.length)(hval:v.isVal=true)(hc:v.cells=[v])(hs:v=f a')
  (k:az F r Q env (h.set id (.cells g ((l.set m a').map f)))):az F (⟨none,.store 1 x y,none⟩::r) Q env h :=
 bh hx hv hg hval (by rw[hc];rfl) (by rw[List.length_map];omega) (by rw[hc,ho,hs];simp only[putCells,List.map_set]) k
theorem dN {α:Type}{f:α→AV}{l:List α}{a:α}{m n:Nat}{fl:Bool}{k:IntKind}{j:Int}(hx:ev env x = .rd n (l.map f) fl)(hy:ev env y = .int k j)(hm:j=(m:Int))(ha:l[m]?=some a)(hn:n=l.length)
  (k:az F r Q (env.put d (.rp [f a])) h):az F (⟨some d,.indexAddr 1 x y,none⟩::r) Q env h:=by
 have hlt:=(List.getElem?_eq_some_iff.1 ha).1
 refine mr hx hy Ll Ll ?_ k
 subst hm
 simp only[Int.toNat_natCast,Nat.mul_one]
 rw[← List.map_drop,← List.map_take]
 obtain⟨h1,rfl⟩:=List.getElem?_eq_some_iff.1 ha
 rw[List.drop_eq_getElem_cons h1]
 rfl
end
end
section
open Go
theorem aD.new {h:ad}{v e n cs}(hr:aD h v e n cs){id:Nat}{o:iQ}(hid:h.get id=none):aD (h.set id o) v e n cs :=
 hr.keep fun k hk=>ad.get_set_ne _ _ (fun e=>hr.there hk (e ▸ hid))
theorem aD.set_ne {h:ad}{v e n cs}(hr:aD h v e n cs){id:Nat}{o:iQ}(hid:v.rowId≠some id):aD (h.set id o) v e n cs :=
 hr.keep fun k hk=>ad.get_set_ne _ _ (fun e=>hid (e ▸ hk))
theorem aD.set_row {h:ad}{v e n cs}{id g:Nat}(hv:v = .own id g e 0 n none)(hg:1≤g)(hl:cs.length=n*e):aD (h.set id (.cells g cs)) v e n cs :=
 .inr ⟨id,g,hv,ad.get_set_self _ _ _,hg,hl⟩
theorem aD.disj {h:ad}{v e n cs}(hr:aD h v e n cs){id:Nat}(hid:h.get id=none):v.rowId≠some id:=fun e=>hr.there e hid
section
variable {F:bZ} {r:List bK} {Q:Env→ad→Prop} {env:Env} {h:ad} {d:Nat} {x y z c:bA}
theorem eR {h0:ad}{v e n cs}(hx:ev env x=v)(hrow:aD h0 v e n cs)(k:az F r Q (env.put d (.int .i64 n)) h):az F (⟨some d,.len 0 x,none⟩::r) Q env h:=by
 rcases hrow with⟨rfl,rfl,rfl⟩|⟨id,g,rfl,_⟩
 ·exact aw hx k
 ·exact eS hx k
theorem cY {h0:ad}{v e n cs k j}(hx:ev env x=v)(hrow:aD h0 v e n cs)(hy:ev env y = .int k j)(b0:0≤j)(b1:j<n)(k:∀ id g,v = .own id g e 0 n none→h0.get id=some (.cells g cs)→1≤g→az F r Q (env.put d (.ptr id g (j.toNat*e))) h):az F (⟨some d,.indexAddr e x y,none⟩::r) Q env h:=by
 rcases hrow with⟨rfl,rfl,rfl⟩|⟨id,g,rfl,h1,h2,h3⟩
 ·exfalso;omega
 ·exact bv hx hy b0 b1 (by rw[Nat.zero_add];exact k id g rfl h1 h2)
theorem ah {α:Type}{f:α→AV}{l:List α}{a:α}{m n:Nat}{fl:Bool}{k:IntKind}{j:Int}(hx:ev env x = .rd n (l.map f) fl)(hy:ev env y = .int k j)(ha:l[m]?=some a)(hm:j=(m:Int))(hn:n=l.length)
  (k:az F r Q (env.put d (.rp [f a])) h):az F (⟨some d,.indexAddr 1 x y,none⟩::r) Q env h:=dN hx hy hm ha hn k
theorem cM {α:Type}{f:α→List AV}{l:List α}{a:α}{m e n:Nat}{fl:Bool}{k:IntKind}{j:Int}(hx:ev env x = .rd n (l.flatMap f) fl)(hf:∀ x,(f x).length=e)(hy:ev env y = .int k j)(ha:l[m]?=some a)(hm:j=(m:Int))(hn:n=l.length)
  (k:az F r Q (env.put d (.rp (f a))) h):az F (⟨some d,.indexAddr e x y,none⟩::r) Q env h:=iT hx hf hy hm ha hn k
theorem eH {α:Type}{f:α→AV}{l:List α}{a:α}{m id g o:Nat}(hx:ev env x = .ptr id g o)(hg:h.get id=some (.cells g (l.map f)))(ha:l[m]?=some a)(ho:o=m)
  (k:az F r Q (env.put d (f a)) h):az F (⟨some d,.load false 1 false x,none⟩::r) Q env h:=Gb hx hg ho ha k
theorem sM {α:Type}{f:α→AV}{l:List α}{all:List AV}{a:α}{n m id g o:Nat}(hx:ev env x = .ptr id g o)(hg:h.get id=some (.cells g all))(hl:all.take (n*1)=l.map f)(ha:l[m]?=some a)(ho:o=m)
  (k:az F r Q (env.put d (f a)) h):az F (⟨some d,.load false 1 false x,none⟩::r) Q env h:=by
 have hlt:=(List.getElem?_eq_some_iff.1 ha).1
 have h1:(all.take (n*1))[m]?=some (f a):=by rw[hl];simp[ha]
 have h2:all[m]?=some (f a):=by
  rw[List.getElem?_take]at h1
  split at h1
  ·exact h1
  ·cases h1
 exact am hx hg Lm (by have:=(List.getElem?_eq_some_iff.1 h2).1;omega) (by rw[ho];simp[part,List.getD_eq_getElem?_getD,h2]) k
theorem ix {zs:List AV}{k k':IntKind}{n:Int}(hx:ev env x = .int k n)(hy:ev env y = .int k' n)(h0:0≤n)(h1:n≤4294967296)(k:∀ id,h.get id=none→az F r Q (env.put d (.own id 1 zs.length 0 n.toNat none)) (h.set id (.cells 1 (List.replicate n.toNat zs).flatten))):az F (⟨some d,.mkslice zs x y,none⟩::r) Q env h:=by
 have hmax:(kH:Int)=4294967296:=rfl
 simp only[bO,yN,gT,hx,hy,bH]
 rw[if_pos ⟨h0,Int.le_refl _,by omega⟩]
 exact k
theorem nO {id g e n:Nat}{k:IntKind}{j:Int}(hx:ev env x = .own id g e 0 n none)(hy:ev env y = .int k j)(h0:0≤j)(h1:j≤n)(k:az F r Q (env.put d (.own id g e 0 j.toNat none)) h):az F (⟨some d,.slice e x none (some y) none,none⟩::r) Q env h:=by
 simp only[bO,oT,a8,hx,eY,hy,Option.bind_some,bH]
 rw[if_pos ⟨by omega,h0,h1,trivial,trivial⟩]
 simpa using k
theorem sL {id g e n:Nat}{k:IntKind}{j:Int}(hx:ev env x = .own id g e 0 n none)(hy:ev env y = .int k j)(h0:0≤j)(h1:j≤n)(k:az F r Q (env.put d (.own id g e j.toNat (n-j).toNat none)) h):az F (⟨some d,.slice e x (some y) none none,none⟩::r) Q env h:=by
 simp only[bO,oT,a8,hx,eY,hy,Option.bind_some,bH]
 rw[if_pos ⟨h0,h1,Int.le_refl _,trivial,trivial⟩]
 simpa using k
theorem jO {α:Type}{f:α→AV}{l:List α}{n:Nat}{fl:Bool}{k:IntKind}{j:Int}(hx:ev env x = .rd n (l.map f) fl)(hn:n=l.length)(hy:ev env y = .int k j)(h0:0≤j)(h1:j≤l.length)(k:az F r Q (env.put d (.rd (l.drop j.toNat).length ((l.drop j.toNat).map f) fl)) h):az F (⟨some d,.slice 1 x (some y) none none,none⟩::r) Q env h:=by
 subst hn
 simp only[bO,oT,a8,hx,eY,hy,Option.bind_some,bH]
 rw[if_pos ⟨h0,h1,Int.le_refl _,trivial,by simp⟩]
 simp only[mR,Option.isSome_none,Bool.false_or,decide_true,Bool.and_true,Nat.mul_one]
 have e:((l.map f).drop j.toNat).take ((l.length:Int)-j).toNat=(l.drop j.toNat).map f:=by
  rw[← List.map_drop,List.take_of_length_le (by simp;omega)]
 rw[e,show((l.length:Int)-j).toNat=(l.drop j.toNat).length by simp;omega]
 exact k
def iP (h:ad)(v:AV)(e n:Nat)(cs:List AV):Prop :=
 (v = .rd 0 [] true∧n=0∧cs=[])∨∃ id g all,v = .own id g e 0 n none∧h.get id=some (.cells g all)∧1≤g∧n*e≤all.length∧all.take (n*e)=cs
theorem aD.pre {v:AV}{e n:Nat}{cs:List AV}(hr:aD h v e n cs):iP h v e n cs:=by
 rcases hr with h1|⟨id,g,h1,h2,h3,h4⟩
 ·exact .inl h1
 ·exact .inr ⟨id,g,cs,h1,h2,h3,by omega,by rw[← h4,List.take_length]⟩
theorem iP.keep {h':ad}{v e n cs}(hr:iP h v e n cs)(hk:∀ id,v.rowId=some id→h'.get id=h.get id):iP h' v e n cs:=by
 rcases hr with h1|⟨id,g,all,rfl,h2,h3⟩
 ·exact .inl h1
 ·exact .inr ⟨id,g,all,rfl,(hk id rfl).trans h2,h3⟩
theorem iP.there {v e n cs}(hr:iP h v e n cs){id:Nat}(hi:v.rowId=some id):h.get id≠none:=by
 rcases hr with⟨rfl,_⟩|⟨id',g,all,rfl,h2,_⟩
 ·cases hi
 ·cases hi
  rw[h2];simp
theorem iP.disj {v e n cs}(hr:iP h v e n cs){id:Nat}(hid:h.get id=none):v.rowId≠some id:=fun e=>hr.there e hid
theorem iP.set_ne {v e n cs}(hr:iP h v e n cs){id:Nat}{o:iQ}(hid:v.rowId≠some id):iP (h.set id o) v e n cs :=
 hr.keep fun k hk=>ad.get_set_ne _ _ (fun e=>hid (e ▸ hk))
theorem iP.new {v e n cs}(hr:iP h v e n cs){id:Nat}{o:iQ}(hid:h.get id=none):iP (h.set id o) v e n cs:=hr.set_ne (hr.disj hid)
theorem ck {h0:ad}{id g o e n:Nat}{cs cs0 cs':List AV}{v:AV}(hx:ev env x = .ptr id g o)(hv:ev env y=v)(hrow:aD h0 v e n cs0)(hg:h.get id=some (.cells g cs))(hb:o+1≤cs.length)(hc:cs.set o v=cs')(k:az F r Q env (h.set id (.cells g cs'))):az F (⟨none,.store 1 x y,none⟩::r) Q env h :=
 bh hx hv hg hrow.isVal (by rw[hrow.cells];rfl) hb (by rw[hrow.cells];exact hc) k
theorem tD {h0:ad}{v e n cs}(hx:ev env x=v)(hrow:iP h0 v e n cs)(k:az F r Q (env.put d (.int .i64 n)) h):az F (⟨some d,.len 0 x,none⟩::r) Q env h:=by
 rcases hrow with⟨rfl,rfl,rfl⟩|⟨id,g,all,rfl,_⟩
 ·exact aw hx k
 ·exact eS hx k
theorem xA {h0:ad}{v e n cs k j}(hx:ev env x=v)(hrow:iP h0 v e n cs)(hy:ev env y = .int k j)(b0:0≤j)(b1:j<n)(k:∀ id g all,v = .own id g e 0 n none→h0.get id=some (.cells g all)→1≤g→n*e≤all.length→all.take (n*e)=cs→az F r Q (env.put d (.ptr id g (j.toNat*e))) h):az F (⟨some d,.indexAddr e x y,none⟩::r) Q env h:=by
 rcases hrow with⟨rfl,rfl,rfl⟩|⟨id,g,all,rfl,h1,h2,h3,h4⟩
 ·exfalso;omega
 ·exact bv hx hy b0 b1 (by rw[Nat.zero_add];exact k id g all rfl h1 h2 h3 h4)
theorem vh {e n m:Nat}{v:AV}{cs new:List AV}{f:Bool}(hx:ev env x=v)(hrow:iP h v e n cs)(hy:ev env y = .rd m new f)(hm:new.length=m*e)(hle:n+m≤4294967296)
  (k:∀ v' h',aD h' v' e (n+m) (cs++new)→(∀ id,h.get id≠none→v.rowId≠some id→h'.get id=h.get id)→(∀ id,v'.rowId=some id→v.rowId=some id∨h.get id=none)→az F r Q (env.put d v') h'):az F (⟨some d,.append e x y,none⟩::r) Q env h:=by
 have hmax:kH=4294967296:=rfl
 rcases hrow with⟨rfl,rfl,rfl⟩|⟨id,g,all,rfl,h2,h3,h4,h5⟩
 ·exact aY hx (aD.nil _ _) hy hm hle k
 ·simp only[bO,kB,dr,hx,hy,bB,hm,if_true,Option.bind_some,bH]
  simp only[h2]
  rw[if_pos ⟨trivial,h3,trivial,by omega,by rw[Nat.zero_add];exact h4⟩]
  simp only[qw,Nat.zero_mul,List.drop_zero,h5]
  exact k _ _ (.inr ⟨id,g+1,rfl,ad.get_set_self _ _ _,by omega,by rw[List.length_append,hm,Nat.add_mul,← h5,List.length_take,Nat.min_eq_left h4]⟩) (fun j hj hne=>ad.get_set_ne _ _ (fun e=>hne (by rw[e];rfl))) (fun j hj => .inl hj)
end
theorem bD {Φ:Lib}{Z:Option Nat→Bool}{c:gk}{Q:Ex→Env→ad→Prop}(N:Nat)(I:Nat→Env→ad→Prop){env:Env}{h:ad}(h0:I 0 env h)
  (hr:∀ i env h,i≤N→I i env h→bf (bc Φ) Z c (cw (fun m e h=>∃ j,j≤N∧m=N-j∧I j e h) (N-i) Q) env h):bf (bc Φ) Z (.loop c) Q env h :=
 gL (fun m e h=>∃ j,j≤N∧m=N-j∧I j e h) N ⟨0,Nat.zero_le _,rfl,h0⟩ (by rintro _ e h ⟨i,hi,rfl,hI⟩;exact hr i e h hi hI)
theorem aR {N:Nat}{I:Nat→Env→ad→Prop}{i:Nat}{Q:Ex→Env→ad→Prop}{env:Env}{h:ad}(hi:i<N)(hI:I (i+1) env h):cw (fun m e h=>∃ j,j≤N∧m=N-j∧I j e h) (N-i) Q .norm env h :=
 fp (N-(i+1)) Ll ⟨i+1,hi,rfl,hI⟩
theorem aV {α:Type}{l:List α}{i:Nat}{a:α}(h:l[i]?=some a):l.take (i+1)=l.take i++[a]:=by
 rw[List.take_add_one,h];rfl
theorem lt_of_getElem? {α:Type}{l:List α}{i:Nat}{a:α}(h:l[i]?=some a):i<l.length:=(List.getElem?_eq_some_iff.1 h).1
theorem aK {α:Type}{l:List α}{i:Nat}(h:i<l.length):∃ a,l[i]?=some a:=⟨_,List.getElem?_eq_getElem h⟩
end
section
open Go
section
variable {F:bZ} {r:List bK} {Q:Env→ad→Prop} {env:Env} {h:ad} {d:Nat} {x y z c:bA}
theorem AT {a b s}(hx:ev env x = .int .i64 a)(hy:ev env y = .int .i64 b)(hs:a*b=s)(h1 : -9223372036854775808≤s)(h2:s≤9223372036854775807)(k:az F r Q (env.put d (.int .i64 s)) h):az F (⟨some d,.bin .mul x y,none⟩::r) Q env h:=by
 subst hs
 have:IntKind.i64.wrap (a*b)=a*b:=by simp[IntKind.wrap,IntKind.bits,IntKind.signed];omega
 simp[hx,hy,this,k]
theorem ny {k k' a b}(hx:ev env x = .int k a)(hy:ev env y = .int k' b)(hk:k=k')(h0:0≤a)(h1:0<b)(k1:az F r Q (env.put d (.int k (a%b))) h):az F (⟨some d,.bin .rem x y,none⟩::r) Q env h:=by
 subst hk
 have hb:b≠0:=by omega
 rw[← Int.tmod_eq_emod_of_nonneg h0]at k1
 simp[hx,hy,hb,k1]
theorem xz {a b}(hx:ev env x = .int .i64 a)(hy:ev env y = .int .i64 b)(h0:0≤a)(h1:0<b)(h2:a≤9223372036854775807)(k1:az F r Q (env.put d (.int .i64 (a / b))) h):az F (⟨some d,.bin .quo x y,none⟩::r) Q env h:=by
 have hb:b≠0:=by omega
 have e:a.tdiv b=a / b:=Int.tdiv_eq_ediv_of_nonneg h0
 have l1:0≤a / b:=Int.ediv_nonneg h0 Ll
 have l2:a / b≤a:=Int.ediv_le_self b h0
 have:IntKind.i64.wrap (a.tdiv b)=a / b:=by rw[e];simp[IntKind.wrap,IntKind.bits,IntKind.signed];omega
 simp[hx,hy,hb,this,k1]
theorem ce {vs v i}(hx:ev env x = .tup vs)(hv:vs[i]?=some v)(k1:az F r Q (env.put d v) h):az F (⟨some d,.extract x i,none⟩::r) Q env h:=by
 simp[hx,hv,k1]
theorem nA {k a}(hx:ev env x = .int k a)(h0 : -9223372036854775808≤a)(h1:a≤9223372036854775807)(k1:az F r Q (env.put d (.int .i64 a)) h):az F (⟨some d,.conv .i64 x,none⟩::r) Q env h:=by
 have:IntKind.i64.wrap a=a:=by simp[IntKind.wrap,IntKind.bits,IntKind.signed];omega
 simp[hx,this,k1]
end
theorem kA {Φ:Lib}{Z:Option Nat→Bool}:∀ (c:gk) {Q Q':Ex→Env→ad→Prop} {env:Env} {h:ad},(∀ x e h,Q x e h→Q' x e h)→bf (bc Φ) Z c Q env h→bf (bc Φ) Z c Q' env h
 | .skip,_,_,_,_,hq,hw=>hq _ _ _ hw
 | .ops l,_,_,_,_,hq,hw=>by
  unfold bf at hw ⊢
  split
  ·rw[if_pos ‹_›]at hw
   exact cK (fun _ _ _ _ h=>h) (bc.mono Φ) _ hq hw
  ·rw[if_neg ‹_›]at hw
   exact rx (fun _ _ _ _ h=>h) (bc.mono Φ) l (fun _ _=>hq _ _ _) hw
 | .seq a b,Q,Q',env,h,hq,hw=>by
  unfold bf at hw ⊢
  refine kA a (fun x e h hh=>?_) hw
  cases x
  ·exact kA b hq hh
  ·exact hq _ _ _ hh
  ·exact hq _ _ _ hh
 | .cond c a b,Q,Q',env,h,hq,hw=>by
  unfold bf sa at hw ⊢
  split at hw
  ·exact⟨fun e=>kA a hq (hw.1 e),fun e=>kA b hq (hw.2 e)⟩
  ·exact hw.elim
 | .block id c,Q,Q',env,h,hq,hw=>by
  unfold bf at hw ⊢
  refine kA c (fun x e h hh=>?_) hw
  cases x
  ·exact hq _ _ _ hh
  ·rename_i j
   simp only[bz]at hh ⊢
   split at hh
   ·rw[if_pos ‹_›];exact hq _ _ _ hh
   ·rw[if_neg ‹_›];exact hq _ _ _ hh
  ·exact hq _ _ _ hh
 | .loop c,_,_,_,_,hq,hw=>by
  unfold bf at hw ⊢
  exact cK (fun _ _ _ _ h=>h) (bc.mono Φ) _ hq hw
 | .rangef f ps a b,_,_,_,_,hq,hw=>by
  unfold bf at hw ⊢
  exact cK (fun _ _ _ _ h=>h) (bc.mono Φ) _ hq hw
 | .exit _,_,_,_,_,hq,hw=>hq _ _ _ hw
 | .ret,_,_,_,_,hq,hw=>hq _ _ _ hw
theorem JH {Φ:Lib}{Z:Option Nat→Bool}{c:gk}{k:Env→ad→Prop}{K:Ex→Env→ad→Prop}{env:Env}{h:ad}(M:Env→ad→Prop)(h1:bf (bc Φ) Z c (de M K) env h)(h2:∀ e h,M e h→k e h):bf (bc Φ) Z c (de k K) env h :=
 kA c (fun x e h hh=>by
  cases x
  ·exact h2 e h hh
  ·exact hh
  ·exact hh) h1
theorem oW {Φ:Lib}{Z:Option Nat→Bool}{a b:gk}{k:Env→ad→Prop}{K:Ex→Env→ad→Prop}{env:Env}{h:ad}(M:Env→ad→Prop)(h1:bf (bc Φ) Z (.seq a b) (de M K) env h)(h2:∀ e h,M e h→k e h):bf (bc Φ) Z a (de (bf (bc Φ) Z b (de k K)) (de k K)) env h :=
 JH (c := .seq a b) M h1 h2
theorem jN {Φ:Lib}{Z:Option Nat→Bool}{l:List bK}{K:Ex→Env→ad→Prop}{env:Env}{h:ad}(hz:Z (ng l)=true)(k:az (bc Φ) l (K .norm) env h):bf (bc Φ) Z (.ops l) K env h:=by
 rw[oS,if_pos hz]
 exact .inl k
end
section
open Go
theorem hg_ {P:Prop}(h:P:=by first|assumption|(with_reducible show ad.get (ad.set _ _ _) _=_;first|exact ad.get_set_self _ _ _|exact ad.get_set_old (by assumption) (by first|assumption|(simp[ad.set_none, *];done)|fail)|exact ad.get_set_old (ad.get_set_self _ _ _) (by first|assumption|(simp[ad.set_none, *];done)|fail)|exact ad.get_set_old (ad.get_set_old (by assumption) (by first|assumption|(simp[ad.set_none, *];done)|fail)) (by first|assumption|(simp[ad.set_none, *];done)|fail)|exact ad.get_set_old (ad.get_set_old (ad.get_set_self _ _ _) (by first|assumption|(simp[ad.set_none, *];done)|fail)) (by first|assumption|(simp[ad.set_none, *];done)|fail)|exact ad.get_set_old (ad.get_set_old (ad.get_set_old (by assumption) (by first|assumption|(simp[ad.set_none, *];done)|fail)) (by first|assumption|(simp[ad.set_none, *];done)|fail)) (by first|assumption|(simp[ad.set_none, *];done)|fail)|exact ad.get_set_old (ad.get_set_old (ad.get_set_old (ad.get_set_self _ _ _) (by first|assumption|(simp[ad.set_none, *];done)|fail)) (by first|assumption|(simp[ad.set_none, *];done)|fail)) (by first|assumption|(simp[ad.set_none, *];done)|fail)|fail)|(simp[ad.get_set2, *];done)|(simp[ad.get_set2, *];rfl)|fail):P:=h
theorem ir_ {P:Prop}(h:P:=by first|assumption|(with_reducible show aD (ad.set _ _ _) _ _ _ _;first|exact aD.new (by assumption) (by first|assumption|(simp[ad.set_none, *];done)|fail)|exact aD.new (aD.new (by assumption) (by first|assumption|(simp[ad.set_none, *];done)|fail)) (by first|assumption|(simp[ad.set_none, *];done)|fail)|exact aD.new (aD.new (aD.new (by assumption) (by first|assumption|(simp[ad.set_none, *];done)|fail)) (by first|assumption|(simp[ad.set_none, *];done)|fail)) (by first|assumption|(simp[ad.set_none, *];done)|fail)|exact aD.set_ne (by assumption) (by assumption)|fail)|exact aD.nil _ _|fail):P:=h
theorem ip_ {P:Prop}(h:P:=by first|assumption|(with_reducible show iP (ad.set _ _ _) _ _ _ _;first|exact iP.new (by assumption) (by first|assumption|(simp[ad.set_none, *];done)|fail)|exact iP.set_ne (by assumption) (by assumption)|fail)|fail):P:=h
theorem fz_ {P:Prop}(h:P:=by simp[AV.frozenL,AV.frozen, *]):P:=h
theorem eq_ {P:Prop}(h:P:=by first|rfl|(simp;done)|(simp;omega)|omega):P:=h
theorem pv_ {P:Prop}(h:P:=by first|exact(rfl:_=AV.int _ _)|exact(rfl:_=AV.bool _)|exact(rfl:_=AV.rd _ _ _)|exact(rfl:_=AV.ptr _ _ _)|exact(rfl:_=AV.own _ _ _ _ _ _)|(simp only[part,Bool.false_eq_true,reduceIte,List.getD_cons_zero,List.getD_cons_succ,List.drop_succ_cons,List.drop_zero,List.take_succ_cons,List.take_zero]<;>exact rfl)|exact rfl):P:=h
theorem sv_ {P:Prop}(h:P:=by first|(simp only[putCells,AV.cells,List.set_cons_zero,List.set_cons_succ,List.take_succ_cons,List.take_zero,List.drop_succ_cons,List.drop_zero,List.length_cons,List.length_nil,Nat.zero_add,Nat.reduceAdd,List.cons_append,List.nil_append]<;>exact rfl)|exact rfl):P:=h
theorem rv_ {P:Prop}(h:P:=by simp only[Ho,Env.puts,Env.put_apply,reduceIte,Nat.reduceEqDiff];exact rfl):P:=h
theorem nt_ {P:Prop}(h:P:=by repeat' first|rfl|assumption|exact aD.notTup (by assumption)|refine IA ?_ ?_):P:=h
theorem fl_ {P:Prop}(h:P:=by first|assumption|exact fun _=>rfl|fail):P:=h
theorem hh_ {P:Prop}(h:P:=by repeat' first|exact trivial|refine And.intro rfl ?_):P:=h
section
variable {F:bZ} {r:List bK} {Q:Env→ad→Prop} {env:Env} {h:ad}
theorem gw {l}(k:az F l Q env h):az F l Q env h:=k
theorem gx {F Z c}{K:Ex→Env→ad→Prop}(k:bf F Z c K env h):bf F Z c K env h:=k
theorem gq0 {a b}(k:az F (⟨a,.mv b,none⟩::r) Q env h):az F (⟨a,.mv b,none⟩::r) Q env h:=k
theorem gq1 {a b c}(k:az F (⟨a,b,some c⟩::r) Q env h):az F (⟨a,b,some c⟩::r) Q env h:=k
theorem gq2 {a b c d e}(k:az F (⟨a,.load b c d e,none⟩::r) Q env h):az F (⟨a,.load b c d e,none⟩::r) Q env h:=k
theorem gq3 {a b c d}(k:az F (⟨a,.bin b c d,none⟩::r) Q env h):az F (⟨a,.bin b c d,none⟩::r) Q env h:=k
theorem gq4 {a b c}(k:az F (⟨a,.fieldAddr b c,none⟩::r) Q env h):az F (⟨a,.fieldAddr b c,none⟩::r) Q env h:=k
theorem gq5 {a b c d}(k:az F (⟨a,.indexAddr b c d,none⟩::r) Q env h):az F (⟨a,.indexAddr b c d,none⟩::r) Q env h:=k
theorem gq6 {a b c}(k:az F (⟨a,.len b c,none⟩::r) Q env h):az F (⟨a,.len b c,none⟩::r) Q env h:=k
theorem gq7 {a b c d}(k:az F (⟨a,.pick b c d,none⟩::r) Q env h):az F (⟨a,.pick b c d,none⟩::r) Q env h:=k
theorem jI {a b c d}(k:az F (⟨a,.store b c d,none⟩::r) Q env h):az F (⟨a,.store b c d,none⟩::r) Q env h:=k
theorem lp {a b c d}(k:az F (⟨a,.append b c d,none⟩::r) Q env h):az F (⟨a,.append b c d,none⟩::r) Q env h:=k
theorem KN {a b c}(k:az F (⟨a,.build b c,none⟩::r) Q env h):az F (⟨a,.build b c,none⟩::r) Q env h:=k
theorem KM {a b c d e}(k:az F (⟨a,.lit b c d e,none⟩::r) Q env h):az F (⟨a,.lit b c d e,none⟩::r) Q env h:=k
theorem La {a b c d e z5}(k:az F (⟨a,.slice b c d e z5,none⟩::r) Q env h):az F (⟨a,.slice b c d e z5,none⟩::r) Q env h:=k
theorem JX {a b c}(k:az F (⟨a,.conv b c,none⟩::r) Q env h):az F (⟨a,.conv b c,none⟩::r) Q env h:=k
end
theorem b_ {P:Prop}(h:P:=by first|(simp;done)|(simp;omega)|fail):P:=h
section
variable {F:bZ} {r:List bK} {Q:Env→ad→Prop} {env:Env} {h:ad} {d:Nat} {x y c:bA}
theorem aq {k n}(hx:ev env x=AV.int k n)(k1:az F r Q (env.put d (AV.int k n)) h):az F (⟨some d,.mv x,none⟩::r) Q env h:=au hx k1
theorem aG {a b e}(hx:ev env x=AV.rd a b e)(k1:az F r Q (env.put d (AV.rd a b e)) h):az F (⟨some d,.mv x,none⟩::r) Q env h:=au hx k1
theorem bl {b}(hx:ev env x=AV.bool b)(k1:az F r Q (env.put d (AV.bool b)) h):az F (⟨some d,.mv x,none⟩::r) Q env h:=au hx k1
theorem bi {b}(hc:ev env c = .bool true)(hx:ev env x=AV.bool b)(k1:az F r Q (env.put d (AV.bool b)) h):az F (⟨some d,.pick c x y,none⟩::r) Q env h:=Dh hc hx k1
theorem bb {b}(hc:ev env c = .bool false)(hx:ev env y=AV.bool b)(k1:az F r Q (env.put d (AV.bool b)) h):az F (⟨some d,.pick c x y,none⟩::r) Q env h:=Di hc hx k1
end
@[reducible] def tM (n:Nat):bA := .tmp n
@[reducible] def kM (x:Int):bA := .const (.int .i64 x)
@[reducible] def mM (d s:Nat):bK:=⟨some d,.mv (.tmp s),none⟩
@[reducible] def oM (d:Nat)(o:DOp):bK:=⟨some d,o,none⟩
@[reducible] def gM (d g:Nat)(b:Bool)(o:DOp):bK:=⟨some d,o,some (g,b)⟩
@[reducible] def nM (o:DOp):bK:=⟨none,o,none⟩
end
section
open Go
structure Fam (h:ad)(ws:List AV)(ds:List (Nat×Nat×List AV)):Prop where
 len:ws.length=ds.length
 row:∀ (j:Nat) w d,ws[j]?=some w→ds[j]?=some d→aD h w d.1 d.2.1 d.2.2
 dis:∀ (i j:Nat) w w' id,ws[i]?=some w→ws[j]?=some w'→w.rowId=some id→w'.rowId=some id→i=j
theorem Fam.keep {h h':ad}{ws:List AV}{ds:List (Nat×Nat×List AV)}(hF:Fam h ws ds)(hk:∀ w∈ws,∀ id,w.rowId=some id→h'.get id=h.get id):Fam h' ws ds :=
 ⟨hF.len,fun j w d hw hd=>(hF.row j w d hw hd).keep (hk w (List.mem_of_getElem? hw)),hF.dis⟩
theorem Fam.there {h:ad}{ws:List AV}{ds:List (Nat×Nat×List AV)}(hF:Fam h ws ds){w:AV}(hw:w∈ws){id:Nat}(hid:w.rowId=some id):h.get id≠none:=by
 obtain⟨j,hj,rfl⟩:=List.getElem_of_mem hw
 obtain⟨d,hd⟩:=aK (l:=ds) (show j<ds.length by rw[← hF.len];exact hj)
 exact(hF.row j _ d (List.getElem?_eq_getElem hj) hd).there hid
theorem Fam.nils (h:ad)(es:List Nat):Fam h (List.replicate es.length (.rd 0 [] true)) (es.map fun e=>(e,0,[])):=by
 refine⟨by simp,fun j w d hw hd=>?_,fun i j w w' id hw _ hid _=>?_⟩
 ·rw[List.getElem?_replicate]at hw
  split at hw
  ·cases hw
   rw[List.getElem?_map,Option.map_eq_some_iff]at hd
   obtain⟨e,_,rfl⟩:=hd
   exact aD.nil _ _
  ·cases hw
 ·rw[List.getElem?_replicate]at hw
  split at hw
  ·cases hw;cases hid
  ·cases hw
theorem Fam.upd {h hpa:ad}{ws:List AV}{ds:List (Nat×Nat×List AV)}(hF:Fam h ws ds){j:Nat}{w v':AV}{d':Nat×Nat×List AV}(hj:ws[j]?=some w)(hrow:aD hpa v' d'.1 d'.2.1 d'.2.2)
  (hka:∀ id,h.get id≠none→w.rowId≠some id→hpa.get id=h.get id) (hria:∀ id,v'.rowId=some id→w.rowId=some id∨h.get id=none):Fam hpa (ws.set j v') (ds.set j d'):=by
 have hlt:=lt_of_getElem? hj
 have hset:∀ (i:Nat) x,(ws.set j v')[i]?=some x→(i=j∧x=v')∨(i≠j∧ws[i]?=some x):=fun i x hx=>by
  rw[List.getElem?_set]at hx
  split at hx
  ·rename_i e
   subst e
   first|rw[if_pos hlt]at hx|skip
   cases hx
   exact .inl ⟨rfl,rfl⟩
  ·rename_i e
   exact .inr ⟨fun h=>e h.symm,hx⟩
 have hother:∀ (i:Nat) x id,i≠j→ws[i]?=some x→x.rowId=some id→w.rowId≠some id:=fun i x id hij hx hid hw=>hij (hF.dis i j x w id hx hj hid hw)
 refine⟨by simp[hF.len],fun i x d hx hd=>?_,fun i1 i2 x1 x2 id h1 h2 k1 k2=>?_⟩
 ·rcases hset i x hx with⟨rfl,rfl⟩|⟨hij,hx⟩
  ·rw[List.getElem?_set_self (by rw[← hF.len];exact hlt)]at hd
   cases hd
   exact hrow
  ·rw[List.getElem?_set_ne (Ne.symm hij)]at hd
   have hr:=hF.row i x d hx hd
   exact hr.keep fun id hid=>hka id (hr.there hid) (hother i x id hij hx hid)
 ·have cross:∀ (i:Nat) x id,i≠j→ws[i]?=some x→x.rowId=some id→v'.rowId=some id→False:=fun i x id hij hx hid hv=>by
   rcases hria id hv with h|h
   ·exact hother i x id hij hx hid h
   ·exact hF.there (List.mem_of_getElem? hx) hid h
  rcases hset i1 x1 h1 with⟨a1,b1⟩|⟨e1,g1⟩<;>rcases hset i2 x2 h2 with⟨a2,b2⟩|⟨e2,g2⟩
  ·exact a1.trans a2.symm
  ·exact(cross i2 x2 id e2 g2 k2 (b1 ▸ k1)).elim
  ·exact(cross i1 x1 id e1 g1 k1 (b2 ▸ k2)).elim
  ·exact hF.dis i1 i2 x1 x2 id g1 g2 k1 k2
theorem jW {F:bZ}{r:List bK}{Q:Env→ad→Prop}{env:Env}{h:ad}{d:Nat}{x:bA}{cs:List AV}{a:AV}{m id g o:Nat}{b:Bool}(hx:ev env x = .ptr id g o)(hg:h.get id=some (.cells g cs))(ha:cs[m]?=some a)(ho:o=m)(hb:b=true→g=0)
  (k:az F r Q (env.put d a) h):az F (⟨some d,.load b 1 false x,none⟩::r) Q env h :=
 am hx hg hb (by have:=lt_of_getElem? ha;omega) (by rw[ho];simp[part,List.getD_eq_getElem?_getD,ha]) k
end
end Go.Proofs.YtlnobeojgifojaaGreatDoor
