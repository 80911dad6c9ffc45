/- Rows that grow, and loops over functions, in the abstract machine. Rows of elements that grow: reading and writing a cell of an element. Rows of unknown place: length, places; loops that count. More single steps: arithmetic, tuples. What the walk's small goals are closed by. A family of rows that grow, none of which is another. -/
import Derived.Test.YtlnobeojgifojaaGreatDoorB1
set_option linter.unusedVariables false
namespace Go.Proofs.YtlnobeojgifojaaGreatDoor
section
open Go
def aA (h:aa)(v:AV)(e n:Nat)(cs:List AV):Prop :=
 (v = .rd 0 [] true∧n=0∧cs=[])∨∃ id g,v = .own id g e 0 n none∧h.get id=some (.cells g cs)∧1≤g∧cs.length=n*e
def AV.rowId:AV→Option Nat
 | .own id _ _ _ _ _=>some id
 | _=>none
theorem aA.nil (h:aa)(e:Nat):aA h (.rd 0 [] true) e 0 [] := .inl ⟨rfl,rfl,rfl⟩
theorem aA.keep {h h':aa}{v e n cs}(hr:aA h v e n cs)(hk:∀ id,v.rowId=some id→h'.get id=h.get id):aA h' v e n cs:=by
 rcases hr with h1|⟨id,g,rfl,h2,h3,h4⟩
 ·exact .inl h1
 ·exact .inr ⟨id,g,rfl,(hk id rfl).trans h2,h3,h4⟩
theorem aA.there {h:aa}{v e n cs}(hr:aA h v e n cs){id:Nat}(hi:v.rowId=some id):h.get id≠none:=by
 rcases hr with⟨rfl,_⟩|⟨id',g,rfl,h2,_⟩
 ·cases hi
 ·cases hi
  rw[h2];simp
theorem aA.isVal {h:aa}{v e n cs}(hr:aA h v e n cs):v.isVal=true:=by
 rcases hr with⟨rfl,_⟩|⟨id',g,rfl,_⟩<;>rfl
theorem aA.cells {h:aa}{v e n cs}(hr:aA h v e n cs):v.cells=[v]:=by
 rcases hr with⟨rfl,_⟩|⟨id',g,rfl,_⟩<;>rfl
theorem aA.notTup {h:aa}{v e n cs}(hr:aA h v e n cs):v.isTup=false:=by
 rcases hr with⟨rfl,_⟩|⟨id',g,rfl,_⟩<;>rfl
theorem Fi {v:AV}{vs:List AV}(h1:v.isTup=false)(h2:vs.all (fun v => !v.isTup)=true):(v::vs).all (fun v => !v.isTup)=true:=by
 rw[List.all_cons,h1,h2]
 rfl
theorem aA.fz {h:aa}{v e n cs cs'}(hr:aA h v e n cs)(S:Nat→Prop)(hS:∀ id,v.rowId=some id→S id)(hc:FzL h S cs cs'):FzV h S v (.rd n cs' false):=by
 rcases hr with⟨rfl,rfl,rfl⟩|⟨id,g,rfl,h2,h3,h4⟩
 ·cases hc
  exact .rd .nil (fun h=>by cases h)
 ·refine .own (hS id rfl) h2 (by rw[Nat.zero_add,h4];exact Nat.le_refl _) ?_
  rw[Nat.zero_mul,List.drop_zero,← h4,List.take_length]
  exact hc
theorem FzL.same {h:aa}{S:Nat→Prop}:∀ (cs:List AV),FzL h S cs cs
 | [] => .nil
 | c::cs => .cons (.same c) (FzL.same cs)
theorem fk {h:aa}{v e n cs}(hr:aA h v e n cs):bn h e v=some (n,cs):=by
 rcases hr with⟨rfl,rfl,rfl⟩|⟨id,g,rfl,h2,h3,h4⟩
 ·simp[bn]
 ·simp only[bn,h2]
  rw[if_pos ⟨trivial,trivial,by rw[Nat.zero_add,h4];exact Nat.le_refl _⟩,Nat.zero_mul,List.drop_zero,← h4,List.take_length]
section
variable {F:bR} {r:List bA} {Q:Env→aa→Prop} {env:Env} {h:aa} {d:Nat} {x y z c:bl}
theorem gF {e n m:Nat}{v w:AV}{cs new:List AV}(hx:ev env x=v)(hrow:aA h v e n cs)(hy:ev env y=w)(hs:bn h e w=some (m,new))(hm:new.length=m*e)(hle:n+m≤4294967296)
  (k:∀ v' h',aA h' v' e (n+m) (cs++new)→(∀ id,h.get id≠none→v.rowId≠some id→h'.get id=h.get id)→(∀ id,v'.rowId=some id→v.rowId=some id∨h.get id=none)→aj F r Q (env.put d v') h'):aj F (⟨some d,.append e x y,none⟩::r) Q env h:=by
 have hmax:jv=4294967296:=rfl
 simp only[bE,jm,cL,hx,hy,hs,Option.bind_some,bv]
 rcases hrow with⟨rfl,rfl,rfl⟩|⟨id,g,rfl,h2,h3,h4⟩
 ·dsimp only
  rw[if_pos ⟨by simp,by omega⟩]
  by_cases h0:m=0
  ·subst h0
   have:new=[]:=List.eq_nil_of_length_eq_zero (by simpa using hm)
   subst this
   simp only[if_true,oA]
   exact k _ _ (.inl ⟨rfl,rfl,rfl⟩) (fun _ _ _=>rfl) (fun _ h=>by cases h)
  ·rw[if_neg h0]
   simp only[if_true,we]
   intro id hid
   exact k _ _ (.inr ⟨id,1,rfl,aa.get_set_self _ _ _,Nat.le_refl _,by simpa using hm⟩) (fun j hj _=>aa.get_set_ne _ _ (fun e=>hj (e ▸ hid))) (fun j hj=>by cases hj;exact .inr hid)
 ·simp only[h2]
  rw[if_pos ⟨trivial,h3,trivial,by omega,by rw[Nat.zero_add,h4];exact Nat.le_refl _⟩]
  simp only[oA,Nat.zero_mul,List.drop_zero,← h4,List.take_length]
  exact k _ _ (.inr ⟨id,g+1,rfl,aa.get_set_self _ _ _,by omega,by rw[List.length_append,h4,hm,Nat.add_mul]⟩) (fun j hj hne=>aa.get_set_ne _ _ (fun e=>hne (by rw[e];rfl))) (fun j hj => .inl hj)
theorem br {e n m:Nat}{v:AV}{cs new:List AV}{f:Bool}(hx:ev env x=v)(hrow:aA h v e n cs)(hy:ev env y = .rd m new f)(hm:new.length=m*e)(hle:n+m≤4294967296)
  (k:∀ v' h',aA h' v' e (n+m) (cs++new)→(∀ id,h.get id≠none→v.rowId≠some id→h'.get id=h.get id)→(∀ id,v'.rowId=some id→v.rowId=some id∨h.get id=none)→aj F r Q (env.put d v') h'):aj F (⟨some d,.append e x y,none⟩::r) Q env h :=
 gF hx hrow hy (by simp[bn,hm]) hm hle k
theorem aY {n id g o cs v}(hx:ev env x = .ptr id g o)(hv:ev env y=v)(hg:h.get id=some (.cells g cs))(hval:v.isVal=true)(hl:v.cells.length=n)(hb:o+n≤cs.length){cs'}(hc:putCells cs o v.cells=cs')
  (k:aj F r Q env (h.set id (.cells g cs'))):aj F (⟨none,.store n x y,none⟩::r) Q env h:=by
 subst hv hc
 simp only[bE,pm,cL,hx,hg,p8]
 rw[if_pos ⟨trivial,hval,hl,hb⟩]
 exact k
end
theorem aa.set_set (h:aa)(i:Nat)(o o':gB):(h.set i o).set i o'=h.set i o':=by
 have:((h.set i o).set i o').get=(h.set i o').get:=by
  funext j
  simp only[aa.set]
  split<;>rfl
 generalize hx:(h.set i o).set i o'=x at this
 generalize hy:h.set i o'=y at this
 cases x;cases y;cases this;rfl
theorem cy {F:bR}{r:List bA}{Q:Env→aa→Prop}{env:Env}{h:aa}{x y:bl}{n id g o cs v}(hx:ev env x = .ptr id g o)(hv:ev env y=v)(hval:v.isVal=true)(hl:v.cells.length=n)(hb:o+n≤cs.length){cs'}(hc:putCells cs o v.cells=cs')
  (k:aj F r Q env (h.set id (.cells g cs'))):aj F (⟨none,.store n x y,none⟩::r) Q env (h.set id (.cells g cs)):=by
 refine aY hx hv (aa.get_set_self _ _ _) hval hl hb hc ?_
 rw[aa.set_set]
 exact k
def FK (Φ:Lib)(g:Nat)(cap:List AV)(xs:List (List AV)):Prop :=
 ∀ (y:Nat) (J:Nat→(Nat→Prop)→aa→Prop),
  (∀ i D h h',J i D h→(∀ id,D id→h'.get id=h.get id)→J i D h') →
  (∀ i D h,J i D h→∀ id,D id→h.get id≠none) →
  (∀ i x,xs[i]?=some x→∀ D h,J i D h→aU Φ eW (.yield y::x) h (fun v h'=>v = .bool true∧(∀ id,¬ D id→h.get id≠none→h'.get id=h.get id)∧∃ D',J (i+1) D' h'∧∀ id,D' id→D id∨h.get id=none)) →
  ∀ D h,J 0 D h→aU Φ g (.yield y::cap) h (fun _ h'=>∃ D',J xs.length D' h')
theorem wm {Φ:Lib}{f:bl}{ps:List Nat}{a b:f5}{Q:Ex→Env→aa→Prop}{env:Env}{h:aa}{g:Nat}{cap:List AV}{xs:List (List AV)}(hf:ev env f = .fn g cap)(hI:FK Φ g cap xs)
  (I:Nat→(Nat→Prop)→aa→Prop) (hst:∀ i D h h',I i D h→(∀ id,D id→h'.get id=h.get id)→I i D h') (hth:∀ i D h,I i D h→∀ id,D id→h.get id≠none)
  {D:Nat→Prop} (h0:I 0 D h) (hxs:∀ x∈xs,x.length=ps.length)
  (hround:∀ i x,xs[i]?=some x→∀ y D h,I i D h→¬ D y→h.get y≠none→bj (aU Φ) a (fun ex e h1=>ex = .norm∧h1.get y=h.get y∧∀ o,bj (aU Φ) b (fun ex _ h'=>ex = .norm∧(∀ id,¬ D id→h.get id≠none→id≠y→h'.get id=h.get id)∧h'.get y=some o∧∃ D',I (i+1) D' h'∧∀ id,D' id→D id∨h.get id=none) e (h1.set y o)) (iQ env ps x) h)
  (hend:∀ D h,I xs.length D h→Q .norm env h):bj (aU Φ) (.rangef f ps a b) Q env h:=by
 have hm:=aU.mono Φ
 unfold bj
 rw[hf]
 dsimp only
 intro y hy
 have hnotD:¬ D y:=fun hD=>hth _ _ _ h0 y hD hy
 let J:Nat→(Nat→Prop)→aa→Prop:=fun i D h=>(∃ D0:Nat→Prop,(∀ id,D id↔D0 id∨id=y)∧¬ D0 y∧I i D0 h)∧h.get y=some (.loop .ready none env ps a b)
 have hrun:=hI y J ?_ ?_ ?_ (fun id=>D id∨id=y) (h.set y (.loop .ready none env ps a b)) ⟨⟨D,fun _=>Iff.rfl,hnotD,hst _ _ _ _ h0 (fun id hid=>aa.get_set_ne _ _ (fun e=>hnotD (e ▸ hid)))⟩,aa.get_set_self _ _ _⟩
 ·refine hm _ _ _ _ _ (fun v h' hJ=>?_) hrun
  obtain⟨D',⟨D0,_,hy0,hi⟩,hl⟩:=hJ
  unfold kV
  rw[hl]
  refine⟨by simp,by simp,hend D0 _ (hst _ _ _ _ hi fun id hid=>?_)⟩
  have hne:id≠y:=by rintro rfl;exact hy0 hid
  simp only[aa.drop,hne,if_false]
 ·rintro i D1 h1 h2 ⟨⟨D0,e0,hy0,hi⟩,hl⟩ hsame
  exact⟨⟨D0,e0,hy0,hst _ _ _ _ hi fun id hid=>hsame id ((e0 id).2 (.inl hid))⟩,(hsame y ((e0 y).2 (.inr rfl))).trans hl⟩
 ·rintro i D1 h1 ⟨⟨D0,e0,hy0,hi⟩,hl⟩ id hid
  rcases (e0 id).1 hid with h2|rfl
  ·exact hth _ _ _ hi id h2
  ·rw[hl];simp
 ·rintro i x hx D1 h1 ⟨⟨D0,e0,hy0,hi⟩,hl⟩
  refine aU.yield ?_
  unfold lO
  dsimp only
  rw[hl]
  refine⟨hxs x (List.mem_of_getElem? hx),?_⟩
  have hyne:h1.get y≠none:=by rw[hl];simp
  refine cQ (fun _ _ _ _ h=>h) hm a (fun ex e h2 hh=>?_) (hround i x hx y D0 h1 hi hy0 hyne)
  obtain⟨h3,h4,h5⟩:=hh
  refine⟨h3,?_⟩
  unfold eu
  rw[h4,hl]
  refine⟨rfl,?_⟩
  refine cQ (fun _ _ _ _ h=>h) hm b (fun ex e h6 hh=>?_) (h5 (.loop .busy none env ps a b))
  obtain⟨rfl,h7,h8,D',h9,h10⟩:=hh
  dsimp only [eu]
  rw[h8]
  have hy':¬ D' y:=fun hd=>by
   rcases h10 y hd with h|h
   ·exact hy0 h
   ·exact hyne h
  refine⟨rfl,rfl,fun id hid hne=>?_,fun id=>D' id∨id=y,⟨⟨D',fun _=>Iff.rfl,hy',hst _ _ _ _ h9 (fun id hid=>aa.get_set_ne _ _ (fun e=>hy' (e ▸ hid)))⟩,aa.get_set_self _ _ _⟩,fun id hid=>?_⟩
  ·have hiy:id≠y:=fun e=>hid ((e0 id).2 (.inr e))
   rw[aa.get_set_ne _ _ hiy]
   exact h7 id (fun hd=>hid ((e0 id).2 (.inl hd))) hne hiy
  ·rcases hid with hd|rfl
   ·rcases h10 id hd with h|h
    ·exact .inl ((e0 id).2 (.inl h))
    ·exact .inr h
   ·exact .inl ((e0 id).2 (.inr rfl))
section
variable {F:bR} {r:List bA} {Q:Env→aa→Prop} {env:Env} {h:aa} {d:Nat} {x y z c:bl}
theorem C0 {k k' a b m}(hx:ev env x = .int k a)(hy:ev env y = .int k' b)(hm:max a b=m)(k1:aj F r Q (env.put d (.int k m)) h):aj F (⟨some d,.mx [x,y],none⟩::r) Q env h:=by
 subst hm
 have e:(if b>a then b else a)=max a b:=by split<;>omega
 simp only[bE,Gd,List.map_cons,List.map_nil,hx,hy,hY,m6,bv,e]
 exact k1
theorem FR {k k' a b m}(hx:ev env x = .int k a)(hy:ev env y = .int k' b)(hm:min a b=m)(k1:aj F r Q (env.put d (.int k m)) h):aj F (⟨some d,.mn [x,y],none⟩::r) Q env h:=by
 subst hm
 have e:(if b<a then b else a)=min a b:=by split<;>omega
 simp only[bE,Ge,List.map_cons,List.map_nil,hx,hy,hY,m6,bv,e]
 exact k1
theorem tK {l e:Nat}{ag:Bool}{cs:List AV}{k:IntKind}{j:Int}{v:AV}(hx:ev env x = .agg cs)(hy:ev env y = .int k j)(h0:0≤j)(h1:j<l)(h2:j.toNat*e+e≤cs.length)(hv:part ag (j.toNat*e) e cs=v)(k1:aj F r Q (env.put d v) h):aj F (⟨some d,.indexA l e ag x y,none⟩::r) Q env h:=by
 subst hv
 simp only[bE,xX,aF,hx,hy,bv]
 rw[if_pos ⟨h0,h1,h2⟩]
 exact k1
theorem fA {rs}{Q:AV→aa→Prop}{v v'}(S:Nat→Prop)(hv:ef env h rs=some v)(hf:FzV h S v v')(k:Q v' (h.drop S)):dz rs Q .ret env h:=by
 simp only[DX,hv,m6]
 exact .inr ⟨S,v',hf,k⟩
end
theorem EW {Φ:Lib}(Z:Option Nat→Bool){c:f5}{Q:Ex→Env→aa→Prop}{env:Env}{h:aa}(hw:bc (aU Φ) Z c Q env h):bj (aU Φ) c Q env h:=jH (aU.mono Φ) c hw
end
section
open Go
theorem DW {α:Type}{f:α→List AV}{e:Nat}(hf:∀ x,(f x).length=e){l:List α}{m k:Nat}{a:α}(ha:l[m]?=some a)(hk:k<e):(l.flatMap f)[m*e+k]?=(f a)[k]?:=by
 have:=nw f e hf l m a ha
 rw[← this,List.getElem?_take_of_lt hk,List.getElem?_drop]
theorem oh {α:Type}{f:α→List AV}{e:Nat}(hf:∀ x,(f x).length=e){l:List α}{m:Nat}{a:α}(ha:l[m]?=some a):m*e+e≤(l.flatMap f).length:=by
 have hlt:=(List.getElem?_eq_some_iff.1 ha).1
 rw[iS f e hf]
 have:=Nat.mul_le_mul_right e (show m+1≤l.length from hlt)
 rw[Nat.add_mul,Nat.one_mul]at this
 exact this
theorem xn {α:Type}{f:α→List AV}{e:Nat}(hf:∀ x,(f x).length=e):∀ {l:List α} {m k:Nat} {a a':α} {v:AV},l[m]?=some a→k<e→(f a).set k v=f a'→(l.flatMap f).set (m*e+k) v=(l.set m a').flatMap f
 | [],_,_,_,_,_,h,_,_=>by simp at h
 | b::l,0,k,a,a',v,h,hk,ha=>by
  simp at h
  subst h
  rw[List.flatMap_cons,Nat.zero_mul,Nat.zero_add,List.set_append_left _ _ (by rw[hf];exact hk),ha]
  rfl
 | b::l,m+1,k,a,a',v,h,hk,ha=>by
  simp at h
  rw[List.flatMap_cons,Nat.add_mul,Nat.one_mul,List.set_append_right _ _ (by rw[hf];omega),List.set_cons_succ,List.flatMap_cons,hf,
   show m*e+e+k-e=m*e+k by omega,xn hf h hk ha]
section
variable {F:bR} {r:List bA} {Q:Env→aa→Prop} {env:Env} {h:aa} {d:Nat} {x y z c:bl}
theorem iX {α:Type}{f:α→List AV}{l:List α}{a:α}{m e id g o:Nat}(hx:ev env x = .ptr id g o)(hg:h.get id=some (.cells g (l.flatMap f)))(ha:l[m]?=some a)(hf:∀ x,(f x).length=e)(ho:o=m*e)
  (k:aj F r Q (env.put d (.agg (f a))) h):aj F (⟨some d,.load false e true x,none⟩::r) Q env h :=
 ak hx hg HU (by rw[ho];exact oh hf ha) (by rw[ho];simp only[part,if_true];rw[nw f e hf l m a ha]) k
theorem sP {α:Type}{f:α→List AV}{l:List α}{a:α}{m j e id g o:Nat}{v:AV}(hx:ev env x = .ptr id g o)(hg:h.get id=some (.cells g (l.flatMap f)))(ha:l[m]?=some a)(hf:∀ x,(f x).length=e)(ho:o=m*e+j)(hj:j<e)(hv:(f a)[j]?=some v)
  (k:aj F r Q (env.put d v) h):aj F (⟨some d,.load false 1 false x,none⟩::r) Q env h :=
 ak hx hg HU (by have:=oh hf ha;omega) (by rw[ho];simp[part,List.getD_eq_getElem?_getD,DW hf ha hj,hv]) k
theorem rc {α:Type}{f:α→List AV}{l:List α}{a a':α}{m j e id g o:Nat}{v:AV}(hx:ev env x = .ptr id g o)(hv:ev env y=v)(hg:h.get id=some (.cells g (l.flatMap f)))(ha:l[m]?=some a)(hf:∀ x,(f x).length=e)(ho:o=m*e+j)(hj:j<e)(hval:v.isVal=true)(hc:v.cells=[v])(hs:(f a).set j v=f a')
  (k:aj F r Q env (h.set id (.cells g ((l.set m a').flatMap f)))):aj F (⟨none,.store 1 x y,none⟩::r) Q env h :=
 aY hx hv hg hval (by rw[hc];rfl) (by have:=oh hf ha;omega) (by rw[hc,ho];exact xn hf ha hj hs) k
theorem C4 {α:Type}{f:α→AV}{l:List α}{a:α}{m id g o:Nat}(hx:ev env x = .ptr id g o)(hg:h.get id=some (.cells g (l.map f)))(ho:o=m)(ha:l[m]?=some a)
  (k:aj F r Q (env.put d (f a)) h):aj F (⟨some d,.load false 1 false x,none⟩::r) Q env h:=by
 have hlt:=(List.getElem?_eq_some_iff.1 ha).1
 exact ak hx hg HU (by rw[List.length_map];omega) (by rw[ho];simp[part,List.getD_eq_getElem?_getD,ha]) k
theorem pv {α:Type}{f:α→AV}{l:List α}{a':α}{m id g o:Nat}{v:AV}(hx:ev env x = .ptr id g o)(hv:ev env y=v)(hg:h.get id=some (.cells g (l.map f)))(ho:o=m)(hm:m<l.length)(hval:v.isVal=true)(hc:v.cells=[v])(hs:v=f a')
  (k:aj F r Q env (h.set id (.cells g ((l.set m a').map f)))):aj F (⟨none,.store 1 x y,none⟩::r) Q env h :=
 aY hx hv hg hval (by rw[hc];rfl) (by rw[List.length_map];omega) (by rw[hc,ho,hs];simp only[putCells,List.map_set]) k
theorem ig {α:Type}{f:α→AV}{l:List α}{a:α}{m n:Nat}{fl:Bool}{k:IntKind}{j:Int}(hx:ev env x = .rd n (l.map f) fl)(hy:ev env y = .int k j)(hm:j=(m:Int))(ha:l[m]?=some a)(hn:n=l.length)
  (k:aj F r Q (env.put d (.rp [f a])) h):aj F (⟨some d,.indexAddr 1 x y,none⟩::r) Q env h:=by
 have hlt:=(List.getElem?_eq_some_iff.1 ha).1
 refine mq hx hy HT HT ?_ k
 subst hm
 simp only[Int.toNat_natCast,Nat.mul_one]
 rw[← List.map_drop,← List.map_take]
 obtain⟨h1,rfl⟩:=List.getElem?_eq_some_iff.1 ha
 rw[List.drop_eq_getElem_cons h1]
 rfl
end
end
section
open Go
theorem aA.new {h:aa}{v e n cs}(hr:aA h v e n cs){id:Nat}{o:gB}(hid:h.get id=none):aA (h.set id o) v e n cs :=
 hr.keep fun k hk=>aa.get_set_ne _ _ (fun e=>hr.there hk (e ▸ hid))
theorem aA.set_ne {h:aa}{v e n cs}(hr:aA h v e n cs){id:Nat}{o:gB}(hid:v.rowId≠some id):aA (h.set id o) v e n cs :=
 hr.keep fun k hk=>aa.get_set_ne _ _ (fun e=>hid (e ▸ hk))
theorem aA.set_row {h:aa}{v e n cs}{id g:Nat}(hv:v = .own id g e 0 n none)(hg:1≤g)(hl:cs.length=n*e):aA (h.set id (.cells g cs)) v e n cs :=
 .inr ⟨id,g,hv,aa.get_set_self _ _ _,hg,hl⟩
theorem aA.disj {h:aa}{v e n cs}(hr:aA h v e n cs){id:Nat}(hid:h.get id=none):v.rowId≠some id:=fun e=>hr.there e hid
section
variable {F:bR} {r:List bA} {Q:Env→aa→Prop} {env:Env} {h:aa} {d:Nat} {x y z c:bl}
theorem eP {h0:aa}{v e n cs}(hx:ev env x=v)(hrow:aA h0 v e n cs)(k:aj F r Q (env.put d (.int .i64 n)) h):aj F (⟨some d,.len 0 x,none⟩::r) Q env h:=by
 rcases hrow with⟨rfl,rfl,rfl⟩|⟨id,g,rfl,_⟩
 ·exact aD hx k
 ·exact dW hx k
theorem cM {h0:aa}{v e n cs k j}(hx:ev env x=v)(hrow:aA h0 v e n cs)(hy:ev env y = .int k j)(b0:0≤j)(b1:j<n)(k:∀ id g,v = .own id g e 0 n none→h0.get id=some (.cells g cs)→1≤g→aj F r Q (env.put d (.ptr id g (j.toNat*e))) h):aj F (⟨some d,.indexAddr e x y,none⟩::r) Q env h:=by
 rcases hrow with⟨rfl,rfl,rfl⟩|⟨id,g,rfl,h1,h2,h3⟩
 ·exfalso;omega
 ·exact bk hx hy b0 b1 (by rw[Nat.zero_add];exact k id g rfl h1 h2)
theorem ar {α:Type}{f:α→AV}{l:List α}{a:α}{m n:Nat}{fl:Bool}{k:IntKind}{j:Int}(hx:ev env x = .rd n (l.map f) fl)(hy:ev env y = .int k j)(ha:l[m]?=some a)(hm:j=(m:Int))(hn:n=l.length)
  (k:aj F r Q (env.put d (.rp [f a])) h):aj F (⟨some d,.indexAddr 1 x y,none⟩::r) Q env h:=ig hx hy hm ha hn k
theorem fR {α:Type}{f:α→List AV}{l:List α}{a:α}{m e n:Nat}{fl:Bool}{k:IntKind}{j:Int}(hx:ev env x = .rd n (l.flatMap f) fl)(hf:∀ x,(f x).length=e)(hy:ev env y = .int k j)(ha:l[m]?=some a)(hm:j=(m:Int))(hn:n=l.length)
  (k:aj F r Q (env.put d (.rp (f a))) h):aj F (⟨some d,.indexAddr e x y,none⟩::r) Q env h:=lg hx hf hy hm ha hn k
theorem dP {α:Type}{f:α→AV}{l:List α}{a:α}{m id g o:Nat}(hx:ev env x = .ptr id g o)(hg:h.get id=some (.cells g (l.map f)))(ha:l[m]?=some a)(ho:o=m)
  (k:aj F r Q (env.put d (f a)) h):aj F (⟨some d,.load false 1 false x,none⟩::r) Q env h:=C4 hx hg ho ha k
theorem qw {α:Type}{f:α→AV}{l:List α}{all:List AV}{a:α}{n m id g o:Nat}(hx:ev env x = .ptr id g o)(hg:h.get id=some (.cells g all))(hl:all.take (n*1)=l.map f)(ha:l[m]?=some a)(ho:o=m)
  (k:aj F r Q (env.put d (f a)) h):aj F (⟨some d,.load false 1 false x,none⟩::r) Q env h:=by
 have hlt:=(List.getElem?_eq_some_iff.1 ha).1
 have h1:(all.take (n*1))[m]?=some (f a):=by rw[hl];simp[ha]
 have h2:all[m]?=some (f a):=by
  rw[List.getElem?_take]at h1
  split at h1
  ·exact h1
  ·cases h1
 exact ak hx hg HU (by have:=(List.getElem?_eq_some_iff.1 h2).1;omega) (by rw[ho];simp[part,List.getD_eq_getElem?_getD,h2]) k
theorem gb {zs:List AV}{k k':IntKind}{n:Int}(hx:ev env x = .int k n)(hy:ev env y = .int k' n)(h0:0≤n)(h1:n≤4294967296)(k:∀ id,h.get id=none→aj F r Q (env.put d (.own id 1 zs.length 0 n.toNat none)) (h.set id (.cells 1 (List.replicate n.toNat zs).flatten))):aj F (⟨some d,.mkslice zs x y,none⟩::r) Q env h:=by
 have hmax:(jv:Int)=4294967296:=rfl
 simp only[bE,wg,fT,hx,hy,bv]
 rw[if_pos ⟨h0,Int.le_refl _,by omega⟩]
 exact k
theorem l9 {id g e n:Nat}{k:IntKind}{j:Int}(hx:ev env x = .own id g e 0 n none)(hy:ev env y = .int k j)(h0:0≤j)(h1:j≤n)(k:aj F r Q (env.put d (.own id g e 0 j.toNat none)) h):aj F (⟨some d,.slice e x none (some y) none,none⟩::r) Q env h:=by
 simp only[bE,pn,aF,hx,d4,hy,Option.bind_some,bv]
 rw[if_pos ⟨by omega,h0,h1,trivial,trivial⟩]
 simpa using k
theorem qv {id g e n:Nat}{k:IntKind}{j:Int}(hx:ev env x = .own id g e 0 n none)(hy:ev env y = .int k j)(h0:0≤j)(h1:j≤n)(k:aj F r Q (env.put d (.own id g e j.toNat (n-j).toNat none)) h):aj F (⟨some d,.slice e x (some y) none none,none⟩::r) Q env h:=by
 simp only[bE,pn,aF,hx,d4,hy,Option.bind_some,bv]
 rw[if_pos ⟨h0,h1,Int.le_refl _,trivial,trivial⟩]
 simpa using k
def gA (h:aa)(v:AV)(e n:Nat)(cs:List AV):Prop :=
 (v = .rd 0 [] true∧n=0∧cs=[])∨∃ id g all,v = .own id g e 0 n none∧h.get id=some (.cells g all)∧1≤g∧n*e≤all.length∧all.take (n*e)=cs
theorem aA.pre {v:AV}{e n:Nat}{cs:List AV}(hr:aA h v e n cs):gA h v e n cs:=by
 rcases hr with h1|⟨id,g,h1,h2,h3,h4⟩
 ·exact .inl h1
 ·exact .inr ⟨id,g,cs,h1,h2,h3,by omega,by rw[← h4,List.take_length]⟩
theorem gA.keep {h':aa}{v e n cs}(hr:gA h v e n cs)(hk:∀ id,v.rowId=some id→h'.get id=h.get id):gA h' v e n cs:=by
 rcases hr with h1|⟨id,g,all,rfl,h2,h3⟩
 ·exact .inl h1
 ·exact .inr ⟨id,g,all,rfl,(hk id rfl).trans h2,h3⟩
theorem gA.there {v e n cs}(hr:gA h v e n cs){id:Nat}(hi:v.rowId=some id):h.get id≠none:=by
 rcases hr with⟨rfl,_⟩|⟨id',g,all,rfl,h2,_⟩
 ·cases hi
 ·cases hi
  rw[h2];simp
theorem gA.disj {v e n cs}(hr:gA h v e n cs){id:Nat}(hid:h.get id=none):v.rowId≠some id:=fun e=>hr.there e hid
theorem gA.set_ne {v e n cs}(hr:gA h v e n cs){id:Nat}{o:gB}(hid:v.rowId≠some id):gA (h.set id o) v e n cs :=
 hr.keep fun k hk=>aa.get_set_ne _ _ (fun e=>hid (e ▸ hk))
theorem gA.new {v e n cs}(hr:gA h v e n cs){id:Nat}{o:gB}(hid:h.get id=none):gA (h.set id o) v e n cs:=hr.set_ne (hr.disj hid)
theorem cr {h0:aa}{id g o e n:Nat}{cs cs0 cs':List AV}{v:AV}(hx:ev env x = .ptr id g o)(hv:ev env y=v)(hrow:aA h0 v e n cs0)(hg:h.get id=some (.cells g cs))(hb:o+1≤cs.length)(hc:cs.set o v=cs')(k:aj F r Q env (h.set id (.cells g cs'))):aj F (⟨none,.store 1 x y,none⟩::r) Q env h :=
 aY hx hv hg hrow.isVal (by rw[hrow.cells];rfl) hb (by rw[hrow.cells];exact hc) k
theorem rg {h0:aa}{v e n cs}(hx:ev env x=v)(hrow:gA h0 v e n cs)(k:aj F r Q (env.put d (.int .i64 n)) h):aj F (⟨some d,.len 0 x,none⟩::r) Q env h:=by
 rcases hrow with⟨rfl,rfl,rfl⟩|⟨id,g,all,rfl,_⟩
 ·exact aD hx k
 ·exact dW hx k
theorem uN {h0:aa}{v e n cs k j}(hx:ev env x=v)(hrow:gA h0 v e n cs)(hy:ev env y = .int k j)(b0:0≤j)(b1:j<n)(k:∀ id g all,v = .own id g e 0 n none→h0.get id=some (.cells g all)→1≤g→n*e≤all.length→all.take (n*e)=cs→aj F r Q (env.put d (.ptr id g (j.toNat*e))) h):aj F (⟨some d,.indexAddr e x y,none⟩::r) Q env h:=by
 rcases hrow with⟨rfl,rfl,rfl⟩|⟨id,g,all,rfl,h1,h2,h3,h4⟩
 ·exfalso;omega
 ·exact bk hx hy b0 b1 (by rw[Nat.zero_add];exact k id g all rfl h1 h2 h3 h4)
theorem sQ {e n m:Nat}{v:AV}{cs new:List AV}{f:Bool}(hx:ev env x=v)(hrow:gA h v e n cs)(hy:ev env y = .rd m new f)(hm:new.length=m*e)(hle:n+m≤4294967296)
  (k:∀ v' h',aA h' v' e (n+m) (cs++new)→(∀ id,h.get id≠none→v.rowId≠some id→h'.get id=h.get id)→(∀ id,v'.rowId=some id→v.rowId=some id∨h.get id=none)→aj F r Q (env.put d v') h'):aj F (⟨some d,.append e x y,none⟩::r) Q env h:=by
 have hmax:jv=4294967296:=rfl
 rcases hrow with⟨rfl,rfl,rfl⟩|⟨id,g,all,rfl,h2,h3,h4,h5⟩
 ·exact br hx (aA.nil _ _) hy hm hle k
 ·simp only[bE,jm,cL,hx,hy,bn,hm,if_true,Option.bind_some,bv]
  simp only[h2]
  rw[if_pos ⟨trivial,h3,trivial,by omega,by rw[Nat.zero_add];exact h4⟩]
  simp only[oA,Nat.zero_mul,List.drop_zero,h5]
  exact k _ _ (.inr ⟨id,g+1,rfl,aa.get_set_self _ _ _,by omega,by rw[List.length_append,hm,Nat.add_mul,← h5,List.length_take,Nat.min_eq_left h4]⟩) (fun j hj hne=>aa.get_set_ne _ _ (fun e=>hne (by rw[e];rfl))) (fun j hj => .inl hj)
end
theorem cl {Φ:Lib}{Z:Option Nat→Bool}{c:f5}{Q:Ex→Env→aa→Prop}(N:Nat)(I:Nat→Env→aa→Prop){env:Env}{h:aa}(h0:I 0 env h)
  (hr:∀ i env h,i≤N→I i env h→bc (aU Φ) Z c (cn (fun m e h=>∃ j,j≤N∧m=N-j∧I j e h) (N-i) Q) env h):bc (aU Φ) Z (.loop c) Q env h :=
 ic (fun m e h=>∃ j,j≤N∧m=N-j∧I j e h) N ⟨0,Nat.zero_le _,rfl,h0⟩ (by rintro _ e h ⟨i,hi,rfl,hI⟩;exact hr i e h hi hI)
theorem aW {N:Nat}{I:Nat→Env→aa→Prop}{i:Nat}{Q:Ex→Env→aa→Prop}{env:Env}{h:aa}(hi:i<N)(hI:I (i+1) env h):cn (fun m e h=>∃ j,j≤N∧m=N-j∧I j e h) (N-i) Q .norm env h :=
 fo (N-(i+1)) HT ⟨i+1,hi,rfl,hI⟩
theorem aX {α:Type}{l:List α}{i:Nat}{a:α}(h:l[i]?=some a):l.take (i+1)=l.take i++[a]:=by
 rw[List.take_add_one,h];rfl
theorem lt_of_getElem? {α:Type}{l:List α}{i:Nat}{a:α}(h:l[i]?=some a):i<l.length:=(List.getElem?_eq_some_iff.1 h).1
theorem aK {α:Type}{l:List α}{i:Nat}(h:i<l.length):∃ a,l[i]?=some a:=⟨_,List.getElem?_eq_getElem h⟩
end
section
open Go
section
variable {F:bR} {r:List bA} {Q:Env→aa→Prop} {env:Env} {h:aa} {d:Nat} {x y z c:bl}
theorem yf {a b s}(hx:ev env x = .int .i64 a)(hy:ev env y = .int .i64 b)(hs:a*b=s)(h1 : -9223372036854775808≤s)(h2:s≤9223372036854775807)(k:aj F r Q (env.put d (.int .i64 s)) h):aj F (⟨some d,.bin .mul x y,none⟩::r) Q env h:=by
 subst hs
 have:IntKind.i64.wrap (a*b)=a*b:=by simp[IntKind.wrap,IntKind.bits,IntKind.signed];omega
 simp[hx,hy,this,k]
theorem re {k k' a b}(hx:ev env x = .int k a)(hy:ev env y = .int k' b)(hk:k=k')(h0:0≤a)(h1:0<b)(k1:aj F r Q (env.put d (.int k (a%b))) h):aj F (⟨some d,.bin .rem x y,none⟩::r) Q env h:=by
 subst hk
 have hb:b≠0:=by omega
 rw[← Int.tmod_eq_emod_of_nonneg h0]at k1
 simp[hx,hy,hb,k1]
theorem yd {a b}(hx:ev env x = .int .i64 a)(hy:ev env y = .int .i64 b)(h0:0≤a)(h1:0<b)(h2:a≤9223372036854775807)(k1:aj F r Q (env.put d (.int .i64 (a / b))) h):aj F (⟨some d,.bin .quo x y,none⟩::r) Q env h:=by
 have hb:b≠0:=by omega
 have e:a.tdiv b=a / b:=Int.tdiv_eq_ediv_of_nonneg h0
 have l1:0≤a / b:=Int.ediv_nonneg h0 HT
 have l2:a / b≤a:=Int.ediv_le_self b h0
 have:IntKind.i64.wrap (a.tdiv b)=a / b:=by rw[e];simp[IntKind.wrap,IntKind.bits,IntKind.signed];omega
 simp[hx,hy,hb,this,k1]
theorem bY {vs v i}(hx:ev env x = .tup vs)(hv:vs[i]?=some v)(k1:aj F r Q (env.put d v) h):aj F (⟨some d,.extract x i,none⟩::r) Q env h:=by
 simp[hx,hv,k1]
theorem uQ {k a}(hx:ev env x = .int k a)(h0 : -9223372036854775808≤a)(h1:a≤9223372036854775807)(k1:aj F r Q (env.put d (.int .i64 a)) h):aj F (⟨some d,.conv .i64 x,none⟩::r) Q env h:=by
 have:IntKind.i64.wrap a=a:=by simp[IntKind.wrap,IntKind.bits,IntKind.signed];omega
 simp[hx,this,k1]
end
theorem m9 {Φ:Lib}{Z:Option Nat→Bool}{l:List bA}{K:Ex→Env→aa→Prop}{env:Env}{h:aa}(hz:Z (lG l)=true)(k:aj (aU Φ) l (K .norm) env h):bc (aU Φ) Z (.ops l) K env h:=by
 rw[m5,if_pos hz]
 exact .inl k
end
section
open Go
theorem hg_ {P:Prop}(h:P:=by first|assumption|(with_reducible show aa.get (aa.set _ _ _) _=_;first|exact aa.get_set_self _ _ _|exact aa.get_set_old (by assumption) (by first|assumption|(simp[aa.set_none, *];done)|fail)|exact aa.get_set_old (aa.get_set_self _ _ _) (by first|assumption|(simp[aa.set_none, *];done)|fail)|exact aa.get_set_old (aa.get_set_old (by assumption) (by first|assumption|(simp[aa.set_none, *];done)|fail)) (by first|assumption|(simp[aa.set_none, *];done)|fail)|exact aa.get_set_old (aa.get_set_old (aa.get_set_self _ _ _) (by first|assumption|(simp[aa.set_none, *];done)|fail)) (by first|assumption|(simp[aa.set_none, *];done)|fail)|exact aa.get_set_old (aa.get_set_old (aa.get_set_old (by assumption) (by first|assumption|(simp[aa.set_none, *];done)|fail)) (by first|assumption|(simp[aa.set_none, *];done)|fail)) (by first|assumption|(simp[aa.set_none, *];done)|fail)|exact aa.get_set_old (aa.get_set_old (aa.get_set_old (aa.get_set_self _ _ _) (by first|assumption|(simp[aa.set_none, *];done)|fail)) (by first|assumption|(simp[aa.set_none, *];done)|fail)) (by first|assumption|(simp[aa.set_none, *];done)|fail)|fail)|(simp[aa.get_set2, *];done)|(simp[aa.get_set2, *];rfl)|fail):P:=h
theorem ir_ {P:Prop}(h:P:=by first|assumption|(with_reducible show aA (aa.set _ _ _) _ _ _ _;first|exact aA.new (by assumption) (by first|assumption|(simp[aa.set_none, *];done)|fail)|exact aA.new (aA.new (by assumption) (by first|assumption|(simp[aa.set_none, *];done)|fail)) (by first|assumption|(simp[aa.set_none, *];done)|fail)|exact aA.new (aA.new (aA.new (by assumption) (by first|assumption|(simp[aa.set_none, *];done)|fail)) (by first|assumption|(simp[aa.set_none, *];done)|fail)) (by first|assumption|(simp[aa.set_none, *];done)|fail)|exact aA.set_ne (by assumption) (by assumption)|fail)|exact aA.nil _ _|fail):P:=h
theorem ip_ {P:Prop}(h:P:=by first|assumption|(with_reducible show gA (aa.set _ _ _) _ _ _ _;first|exact gA.new (by assumption) (by first|assumption|(simp[aa.set_none, *];done)|fail)|exact gA.set_ne (by assumption) (by assumption)|fail)|fail):P:=h
theorem fz_ {P:Prop}(h:P:=by simp[AV.frozenL,AV.frozen, *]):P:=h
theorem eq_ {P:Prop}(h:P:=by first|rfl|(simp;done)|(simp;omega)|omega):P:=h
theorem pv_ {P:Prop}(h:P:=by first|exact(rfl:_=AV.int _ _)|exact(rfl:_=AV.bool _)|exact(rfl:_=AV.rd _ _ _)|exact(rfl:_=AV.ptr _ _ _)|exact(rfl:_=AV.own _ _ _ _ _ _)|(simp only[part,Bool.false_eq_true,reduceIte,List.getD_cons_zero,List.getD_cons_succ,List.drop_succ_cons,List.drop_zero,List.take_succ_cons,List.take_zero]<;>exact rfl)|exact rfl):P:=h
theorem sv_ {P:Prop}(h:P:=by first|(simp only[putCells,AV.cells,List.set_cons_zero,List.set_cons_succ,List.take_succ_cons,List.take_zero,List.drop_succ_cons,List.drop_zero,List.length_cons,List.length_nil,Nat.zero_add,Nat.reduceAdd,List.cons_append,List.nil_append]<;>exact rfl)|exact rfl):P:=h
theorem rv_ {P:Prop}(h:P:=by simp only[D3,Env.puts,Env.put_apply,reduceIte,Nat.reduceEqDiff];exact rfl):P:=h
theorem nt_ {P:Prop}(h:P:=by repeat' first|rfl|assumption|exact aA.notTup (by assumption)|refine Fi ?_ ?_):P:=h
theorem fl_ {P:Prop}(h:P:=by first|assumption|exact fun _=>rfl|fail):P:=h
theorem hh_ {P:Prop}(h:P:=by repeat' first|exact trivial|refine And.intro rfl ?_):P:=h
section
variable {F:bR} {r:List bA} {Q:Env→aa→Prop} {env:Env} {h:aa}
theorem gw {l}(k:aj F l Q env h):aj F l Q env h:=k
theorem gx {F Z c}{K:Ex→Env→aa→Prop}(k:bc F Z c K env h):bc F Z c K env h:=k
theorem gq0 {a b}(k:aj F (⟨a,.mv b,none⟩::r) Q env h):aj F (⟨a,.mv b,none⟩::r) Q env h:=k
theorem gq1 {a b c}(k:aj F (⟨a,b,some c⟩::r) Q env h):aj F (⟨a,b,some c⟩::r) Q env h:=k
theorem gq2 {a b c d e}(k:aj F (⟨a,.load b c d e,none⟩::r) Q env h):aj F (⟨a,.load b c d e,none⟩::r) Q env h:=k
theorem gq3 {a b c d}(k:aj F (⟨a,.bin b c d,none⟩::r) Q env h):aj F (⟨a,.bin b c d,none⟩::r) Q env h:=k
theorem gq4 {a b c}(k:aj F (⟨a,.fieldAddr b c,none⟩::r) Q env h):aj F (⟨a,.fieldAddr b c,none⟩::r) Q env h:=k
theorem gq5 {a b c d}(k:aj F (⟨a,.indexAddr b c d,none⟩::r) Q env h):aj F (⟨a,.indexAddr b c d,none⟩::r) Q env h:=k
theorem gq6 {a b c}(k:aj F (⟨a,.len b c,none⟩::r) Q env h):aj F (⟨a,.len b c,none⟩::r) Q env h:=k
theorem gq7 {a b c d}(k:aj F (⟨a,.pick b c d,none⟩::r) Q env h):aj F (⟨a,.pick b c d,none⟩::r) Q env h:=k
theorem iA {a b c d}(k:aj F (⟨a,.store b c d,none⟩::r) Q env h):aj F (⟨a,.store b c d,none⟩::r) Q env h:=k
theorem lE {a b c d}(k:aj F (⟨a,.append b c d,none⟩::r) Q env h):aj F (⟨a,.append b c d,none⟩::r) Q env h:=k
theorem Hn {a b c}(k:aj F (⟨a,.build b c,none⟩::r) Q env h):aj F (⟨a,.build b c,none⟩::r) Q env h:=k
theorem Hm {a b c d e}(k:aj F (⟨a,.lit b c d e,none⟩::r) Q env h):aj F (⟨a,.lit b c d e,none⟩::r) Q env h:=k
theorem HL {a b c d e z5}(k:aj F (⟨a,.slice b c d e z5,none⟩::r) Q env h):aj F (⟨a,.slice b c d e z5,none⟩::r) Q env h:=k
theorem Gy {a b c}(k:aj F (⟨a,.conv b c,none⟩::r) Q env h):aj F (⟨a,.conv b c,none⟩::r) Q env h:=k
end
theorem b_ {P:Prop}(h:P:=by first|(simp;done)|(simp;omega)|fail):P:=h
section
variable {F:bR} {r:List bA} {Q:Env→aa→Prop} {env:Env} {h:aa} {d:Nat} {x y c:bl}
theorem aw {k n}(hx:ev env x=AV.int k n)(k1:aj F r Q (env.put d (AV.int k n)) h):aj F (⟨some d,.mv x,none⟩::r) Q env h:=ai hx k1
theorem bm {a b e}(hx:ev env x=AV.rd a b e)(k1:aj F r Q (env.put d (AV.rd a b e)) h):aj F (⟨some d,.mv x,none⟩::r) Q env h:=ai hx k1
theorem bV {b}(hx:ev env x=AV.bool b)(k1:aj F r Q (env.put d (AV.bool b)) h):aj F (⟨some d,.mv x,none⟩::r) Q env h:=ai hx k1
theorem bU {b}(hc:ev env c = .bool true)(hx:ev env x=AV.bool b)(k1:aj F r Q (env.put d (AV.bool b)) h):aj F (⟨some d,.pick c x y,none⟩::r) Q env h:=Ar hc hx k1
theorem bh {b}(hc:ev env c = .bool false)(hx:ev env y=AV.bool b)(k1:aj F r Q (env.put d (AV.bool b)) h):aj F (⟨some d,.pick c x y,none⟩::r) Q env h:=As hc hx k1
end
@[reducible] def tM (n:Nat):bl := .tmp n
@[reducible] def kM (x:Int):bl := .const (.int .i64 x)
@[reducible] def mM (d s:Nat):bA:=⟨some d,.mv (.tmp s),none⟩
@[reducible] def oM (d:Nat)(o:DOp):bA:=⟨some d,o,none⟩
@[reducible] def gM (d g:Nat)(b:Bool)(o:DOp):bA:=⟨some d,o,some (g,b)⟩
@[reducible] def nM (o:DOp):bA:=⟨none,o,none⟩
end
section
open Go
structure Fam (h:aa)(ws:List AV)(ds:List (Nat×Nat×List AV)):Prop where
 len:ws.length=ds.length
 row:∀ (j:Nat) w d,ws[j]?=some w→ds[j]?=some d→aA h w d.1 d.2.1 d.2.2
 dis:∀ (i j:Nat) w w' id,ws[i]?=some w→ws[j]?=some w'→w.rowId=some id→w'.rowId=some id→i=j
theorem Fam.keep {h h':aa}{ws:List AV}{ds:List (Nat×Nat×List AV)}(hF:Fam h ws ds)(hk:∀ w∈ws,∀ id,w.rowId=some id→h'.get id=h.get id):Fam h' ws ds :=
 ⟨hF.len,fun j w d hw hd=>(hF.row j w d hw hd).keep (hk w (List.mem_of_getElem? hw)),hF.dis⟩
theorem Fam.there {h:aa}{ws:List AV}{ds:List (Nat×Nat×List AV)}(hF:Fam h ws ds){w:AV}(hw:w∈ws){id:Nat}(hid:w.rowId=some id):h.get id≠none:=by
 obtain⟨j,hj,rfl⟩:=List.getElem_of_mem hw
 obtain⟨d,hd⟩:=aK (l:=ds) (show j<ds.length by rw[← hF.len];exact hj)
 exact(hF.row j _ d (List.getElem?_eq_getElem hj) hd).there hid
theorem Fam.nils (h:aa)(es:List Nat):Fam h (List.replicate es.length (.rd 0 [] true)) (es.map fun e=>(e,0,[])):=by
 refine⟨by simp,fun j w d hw hd=>?_,fun i j w w' id hw _ hid _=>?_⟩
 ·rw[List.getElem?_replicate]at hw
  split at hw
  ·cases hw
   rw[List.getElem?_map,Option.map_eq_some_iff]at hd
   obtain⟨e,_,rfl⟩:=hd
   exact aA.nil _ _
  ·cases hw
 ·rw[List.getElem?_replicate]at hw
  split at hw
  ·cases hw;cases hid
  ·cases hw
theorem Fam.upd {h hpa:aa}{ws:List AV}{ds:List (Nat×Nat×List AV)}(hF:Fam h ws ds){j:Nat}{w v':AV}{d':Nat×Nat×List AV}(hj:ws[j]?=some w)(hrow:aA hpa v' d'.1 d'.2.1 d'.2.2)
  (hka:∀ id,h.get id≠none→w.rowId≠some id→hpa.get id=h.get id) (hria:∀ id,v'.rowId=some id→w.rowId=some id∨h.get id=none):Fam hpa (ws.set j v') (ds.set j d'):=by
 have hlt:=lt_of_getElem? hj
 have hset:∀ (i:Nat) x,(ws.set j v')[i]?=some x→(i=j∧x=v')∨(i≠j∧ws[i]?=some x):=fun i x hx=>by
  rw[List.getElem?_set]at hx
  split at hx
  ·rename_i e
   subst e
   first|rw[if_pos hlt]at hx|skip
   cases hx
   exact .inl ⟨rfl,rfl⟩
  ·rename_i e
   exact .inr ⟨fun h=>e h.symm,hx⟩
 have hother:∀ (i:Nat) x id,i≠j→ws[i]?=some x→x.rowId=some id→w.rowId≠some id:=fun i x id hij hx hid hw=>hij (hF.dis i j x w id hx hj hid hw)
 refine⟨by simp[hF.len],fun i x d hx hd=>?_,fun i1 i2 x1 x2 id h1 h2 k1 k2=>?_⟩
 ·rcases hset i x hx with⟨rfl,rfl⟩|⟨hij,hx⟩
  ·rw[List.getElem?_set_self (by rw[← hF.len];exact hlt)]at hd
   cases hd
   exact hrow
  ·rw[List.getElem?_set_ne (Ne.symm hij)]at hd
   have hr:=hF.row i x d hx hd
   exact hr.keep fun id hid=>hka id (hr.there hid) (hother i x id hij hx hid)
 ·have cross:∀ (i:Nat) x id,i≠j→ws[i]?=some x→x.rowId=some id→v'.rowId=some id→False:=fun i x id hij hx hid hv=>by
   rcases hria id hv with h|h
   ·exact hother i x id hij hx hid h
   ·exact hF.there (List.mem_of_getElem? hx) hid h
  rcases hset i1 x1 h1 with⟨a1,b1⟩|⟨e1,g1⟩<;>rcases hset i2 x2 h2 with⟨a2,b2⟩|⟨e2,g2⟩
  ·exact a1.trans a2.symm
  ·exact(cross i2 x2 id e2 g2 k2 (b1 ▸ k1)).elim
  ·exact(cross i1 x1 id e1 g1 k1 (b2 ▸ k2)).elim
  ·exact hF.dis i1 i2 x1 x2 id g1 g2 k1 k2
theorem iP {F:bR}{r:List bA}{Q:Env→aa→Prop}{env:Env}{h:aa}{d:Nat}{x:bl}{cs:List AV}{a:AV}{m id g o:Nat}{b:Bool}(hx:ev env x = .ptr id g o)(hg:h.get id=some (.cells g cs))(ha:cs[m]?=some a)(ho:o=m)(hb:b=true→g=0)
  (k:aj F r Q (env.put d a) h):aj F (⟨some d,.load b 1 false x,none⟩::r) Q env h :=
 ak hx hg hb (by have:=lt_of_getElem? ha;omega) (by rw[ho];simp[part,List.getD_eq_getElem?_getD,ha]) k
end
end Go.Proofs.YtlnobeojgifojaaGreatDoor
