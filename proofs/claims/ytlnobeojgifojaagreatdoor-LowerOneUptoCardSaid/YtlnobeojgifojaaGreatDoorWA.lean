/- Scalars as bytes, plainly: spans cut till they are rows of ranges. Spans cut till they are flat, plainly; a set's rows tell just its scalars' bytes. Ways amid a scalar, plainly: where a byte leads. Things in the order in which they are come to, plainly, whatever they are. -/
import Derived.Test.YtlnobeojgifojaaGreatDoorD1
import Derived.Test.YtlnobeojgifojaaGreatDoorP1
set_option linter.unusedVariables false
set_option linter.unusedSimpArgs false
namespace Go.Proofs.YtlnobeojgifojaaGreatDoor
section
open Go
def bG (r:Int):List Int :=
 if r<128 then [r] else if r<2048 then [192+r / 64,128+r%64]
 else if r<65536 then [224+r / 4096,128+r / 64%64,128+r%64]
 else [240+r / 262144,128+r / 4096%64,128+r / 64%64,128+r%64]
def bq (r:Int):Nat:=if r<128 then 1 else if r<2048 then 2 else if r<65536 then 3 else 4
theorem dI (r:Int):(bG r).length=bq r:=by
 unfold bG bq
 split
 ·rfl
 ·split
  ·rfl
  ·split<;>rfl
theorem de (r:Int):1≤bq r∧bq r≤4:=by
 unfold bq
 split
 ·omega
 ·split
  ·omega
  ·split<;>omega
def je:List (Int×Int)→List Int→Prop
 | [],[]=>True
 | p::r,c::b=>(p.1≤c∧c≤p.2)∧je r b
 | _,_=>False
def dh (s:am):List (Int×Int):=(bG s.lo).zip (bG s.hi)
def gN (m:Int)(s:am):Prop:=s.lo / m=s.hi / m∨(s.lo%m=0∧s.hi%m=m-1)
structure OneSize (s:am):Prop where
 lo:0≤s.lo
 le:s.lo≤s.hi
 hi:s.hi≤1114111
 size:bq s.lo=bq s.hi
structure CF (s:am):Prop extends OneSize s where
 a1:1<bq s.lo→gN 64 s
 a2:2<bq s.lo→gN 4096 s
 a3:3<bq s.lo→gN 262144 s
theorem rq {s:am}(h:OneSize s):(s.hi<128)∨(128≤s.lo∧s.hi<2048)∨(2048≤s.lo∧s.hi<65536)∨(65536≤s.lo):=by
 have h1:=h.size
 have h2:=h.le
 unfold bq at h1
 repeat' split at h1
 all_goals omega
theorem oe {p:Int×Int}{b:List Int}:je [p] b↔∃ c,b=[c]∧p.1≤c∧c≤p.2:=by
 constructor
 ·intro h
  match b,h with
  | [c],h=>exact⟨c,rfl,h.1⟩
 ·rintro⟨c,rfl,h⟩
  exact⟨h,trivial⟩
theorem fw {p:Int×Int}{r:List (Int×Int)}{b:List Int}:je (p::r) b↔∃ c b',b=c::b'∧(p.1≤c∧c≤p.2)∧je r b':=by
 constructor
 ·intro h
  match b,h with
  | c::b',h=>exact⟨c,b',rfl,h⟩
 ·rintro⟨c,b',rfl,h⟩
  exact h
theorem dig {x:Int}(h:0≤x):∃ a b c d:Int,x=a*262144+b*4096+c*64+d∧0≤a∧(0≤b∧b<64)∧(0≤c∧c<64)∧(0≤d∧d<64) :=
 ⟨x / 262144,x / 4096%64,x / 64%64,x%64,by omega,by omega,by omega,by omega,by omega⟩
theorem fp {x a b c d:Int}(h:x=a*262144+b*4096+c*64+d)(hb:0≤b∧b<64)(hc:0≤c∧c<64)(hd:0≤d∧d<64) :
  x / 262144=a∧x / 4096=a*64+b∧x / 64=a*4096+b*64+c∧x / 4096%64=b∧x / 64%64=c∧x%64=d∧x%4096=c*64+d∧x%262144=b*4096+c*64+d:=by
 have e1:x / 262144=a:=by omega
 have e2:x / 4096=a*64+b:=by omega
 have e3:x / 64=a*4096+b*64+c:=by omega
 refine⟨e1,e2,e3,?_,?_,?_,?_,?_⟩
 ·rw[e2];omega
 ·rw[e3];omega
 ·omega
 ·omega
 ·omega
theorem sm {a b c d a' b' c' d' x y z w:Int}(hb:0≤b∧b<64)(hc:0≤c∧c<64)(hd:0≤d∧d<64)(hb':0≤b'∧b'<64)(hc':0≤c'∧c'<64)(hd':0≤d'∧d'<64)
  (e1:(a=a'∧b=b'∧c=c')∨(d=0∧d'=63)) (e2:(a=a'∧b=b')∨(c=0∧d=0∧c'=63∧d'=63)) (e3:a=a'∨(b=0∧c=0∧d=0∧b'=63∧c'=63∧d'=63)) :
  ((a≤x∧x≤a')∧(b≤y∧y≤b')∧(c≤z∧z≤c')∧(d≤w∧w≤d'))↔(0≤y∧y<64)∧(0≤z∧z<64)∧(0≤w∧w<64)∧a*262144+b*4096+c*64+d≤x*262144+y*4096+z*64+w∧x*262144+y*4096+z*64+w≤a'*262144+b'*4096+c'*64+d':=by
 rcases e3 with e3|⟨e3,e4,e5,e6,e7,e8⟩
 ·subst e3
  rcases e2 with⟨_,e2⟩|⟨e2,e4,e5,e6⟩
  ·subst e2
   rcases e1 with⟨_,_,e1⟩|⟨e1,e4⟩
   ·subst e1
    constructor
    ·rintro⟨h1,h2,h3,h4⟩
     obtain rfl:x=a:=by omega
     obtain rfl:y=b:=by omega
     obtain rfl:z=c:=by omega
     omega
    ·rintro⟨h1,h2,h3,h4,h5⟩
     obtain rfl:x=a:=by omega
     obtain rfl:y=b:=by omega
     obtain rfl:z=c:=by omega
     omega
   ·subst e1 e4
    constructor
    ·rintro⟨h1,h2,h3,h4⟩
     obtain rfl:x=a:=by omega
     obtain rfl:y=b:=by omega
     omega
    ·rintro⟨h1,h2,h3,h4,h5⟩
     obtain rfl:x=a:=by omega
     obtain rfl:y=b:=by omega
     omega
  ·subst e2 e4 e5 e6
   constructor
   ·rintro⟨h1,h2,h3,h4⟩
    obtain rfl:x=a:=by omega
    omega
   ·rintro⟨h1,h2,h3,h4,h5⟩
    obtain rfl:x=a:=by omega
    omega
 ·subst e3 e4 e5 e6 e7 e8
  constructor
  ·rintro⟨h1,h2,h3,h4⟩
   omega
  ·rintro⟨h1,h2,h3,h4,h5⟩
   omega
theorem qo {x:Int}(h:x<128):bG x=[x]:=by unfold bG;rw[if_pos h]
theorem qn {x:Int}(h1:128≤x)(h2:x<2048):bG x=[192+x / 64,128+x%64]:=by unfold bG;rw[if_neg HT,if_pos h2]
theorem pa {x:Int}(h1:2048≤x)(h2:x<65536):bG x=[224+x / 4096,128+x / 64%64,128+x%64]:=by unfold bG;rw[if_neg HT,if_neg HT,if_pos h2]
theorem qm {x:Int}(h1:65536≤x):bG x=[240+x / 262144,128+x / 4096%64,128+x / 64%64,128+x%64]:=by unfold bG;rw[if_neg HT,if_neg HT,if_neg HT]
theorem F1 {s:am}{a b c d a' b' c' d':Int}(hlo:s.lo=a*262144+b*4096+c*64+d)(hb:0≤b∧b<64)(hc:0≤c∧c<64)(hd:0≤d∧d<64)(hhi:s.hi=a'*262144+b'*4096+c'*64+d')(hb':0≤b'∧b'<64)(hc':0≤c'∧c'<64)(hd':0≤d'∧d'<64)(h:gN 64 s):(a=a'∧b=b'∧c=c')∨(d=0∧d'=63):=by
 obtain⟨x1,x2,x3,x4,x5,x6,x7,x8⟩:=fp hlo hb hc hd
 obtain⟨y1,y2,y3,y4,y5,y6,y7,y8⟩:=fp hhi hb' hc' hd'
 unfold gN at h
 rw[x3,y3,x6,y6]at h
 omega
theorem F0 {s:am}{a b c d a' b' c' d':Int}(hlo:s.lo=a*262144+b*4096+c*64+d)(hb:0≤b∧b<64)(hc:0≤c∧c<64)(hd:0≤d∧d<64)(hhi:s.hi=a'*262144+b'*4096+c'*64+d')(hb':0≤b'∧b'<64)(hc':0≤c'∧c'<64)(hd':0≤d'∧d'<64)(h:gN 4096 s):(a=a'∧b=b')∨(c=0∧d=0∧c'=63∧d'=63):=by
 obtain⟨x1,x2,x3,x4,x5,x6,x7,x8⟩:=fp hlo hb hc hd
 obtain⟨y1,y2,y3,y4,y5,y6,y7,y8⟩:=fp hhi hb' hc' hd'
 unfold gN at h
 rw[x2,y2,x7,y7]at h
 omega
theorem FZ {s:am}{a b c d a' b' c' d':Int}(hlo:s.lo=a*262144+b*4096+c*64+d)(hb:0≤b∧b<64)(hc:0≤c∧c<64)(hd:0≤d∧d<64)(hhi:s.hi=a'*262144+b'*4096+c'*64+d')(hb':0≤b'∧b'<64)(hc':0≤c'∧c'<64)(hd':0≤d'∧d'<64)(h:gN 262144 s):a=a'∨(b=0∧c=0∧d=0∧b'=63∧c'=63∧d'=63):=by
 obtain⟨x1,x2,x3,x4,x5,x6,x7,x8⟩:=fp hlo hb hc hd
 obtain⟨y1,y2,y3,y4,y5,y6,y7,y8⟩:=fp hhi hb' hc' hd'
 unfold gN at h
 rw[x1,y1,x8,y8]at h
 omega
theorem uZ {s:am}(h:CF s)(l:List Int):je (dh s) l↔∃ x,s.lo≤x∧x≤s.hi∧bG x=l:=by
 have h0:=h.lo
 have hle:=h.le
 have hhi:=h.hi
 have hsz:=rq h.toOneSize
 obtain⟨a,b,c,d,elo,ha,hb,hc,hd⟩:=dig h0
 obtain⟨a',b',c',d',ehi,ha',hb',hc',hd'⟩:=dig (show 0≤s.hi by omega)
 obtain⟨x1,x2,x3,x4,x5,x6,x7,x8⟩:=fp elo hb hc hd
 obtain⟨y1,y2,y3,y4,y5,y6,y7,y8⟩:=fp ehi hb' hc' hd'
 have k1:=fun q=>F1 elo hb hc hd ehi hb' hc' hd' (h.a1 q)
 have k2:=fun q=>F0 elo hb hc hd ehi hb' hc' hd' (h.a2 q)
 have k3:=fun q=>FZ elo hb hc hd ehi hb' hc' hd' (h.a3 q)
 rcases hsz with q|⟨q1,q2⟩|⟨q1,q2⟩|q
 ·rw[dh,qo HT,qo HT]
  show je [(s.lo,s.hi)] l↔_
  rw[oe]
  constructor
  ·rintro⟨c,rfl,h1,h2⟩
   simp only at h1 h2
   exact⟨c,h1,h2,qo HT⟩
  ·rintro⟨x,h1,h2,rfl⟩
   exact⟨x,qo HT,h1,h2⟩
 ·have hs:bq s.lo=2:=by unfold bq;rw[if_neg HT,if_pos HT]
  have k1:=k1 HT
  have z1:a=0∧b=0∧a'=0∧b'=0:=by clear k1 k2 k3 x1 x2 x3 x4 x5 x6 x7 x8 y1 y2 y3 y4 y5 y6 y7 y8;omega
  obtain⟨rfl,rfl,rfl,rfl⟩:=z1
  have key:=fun z w:Int=>sm (a:=0) (b:=0) (a':=0) (b':=0) (x:=0) (y:=0) (z:=z) (w:=w) hb hc hd hb' hc' hd' k1 (.inl ⟨rfl,rfl⟩) (.inl rfl)
  rw[dh,qn HT HT,qn HT HT,x3,x6,y3,y6]
  clear k1 k2 k3 x1 x2 x3 x4 x5 x6 x7 x8 y1 y2 y3 y4 y5 y6 y7 y8
  show je [(_,_),(_,_)] l↔_
  rw[fw]
  constructor
  ·rintro⟨u,l',rfl,h1,h2⟩
   obtain⟨v,rfl,h2⟩:=oe.1 h2
   simp only at h1 h2
   have g:=(key (u-192) (v-128)).1 HT
   clear key
   have e:(u-192)*64+(v-128)=0*262144+0*4096+(u-192)*64+(v-128):=by omega
   obtain⟨g1,g2,g3,g4,g5,g6,g7,g8⟩:=fp e HT g.2.1 g.2.2.1
   refine⟨(u-192)*64+(v-128),by omega,by omega,?_⟩
   rw[qn HT HT,g3,g6]
   congr 1
   ·omega
   ·congr 1;omega
  ·rintro⟨x,h1,h2,rfl⟩
   obtain⟨p,q,r,t,ex,hp,hq,hr,ht⟩:=dig (show 0≤x by omega)
   have z2:p=0∧q=0:=by clear key;omega
   obtain⟨rfl,rfl⟩:=z2
   obtain⟨g1,g2,g3,g4,g5,g6,g7,g8⟩:=fp ex hq hr ht
   have g:=(key r t).2 HT
   rw[qn HT HT,g3,g6]
   clear key g1 g2 g3 g4 g5 g6 g7 g8
   refine⟨_,_,rfl,?_,oe.2 ⟨_,rfl,?_⟩⟩
   ·simp only;omega
   ·simp only;omega
 ·have hs:bq s.lo=3:=by unfold bq;rw[if_neg HT,if_neg HT,if_pos HT]
  have k1:=k1 HT
  have k2:=k2 HT
  have z1:a=0∧a'=0:=by clear k1 k2 k3 x1 x2 x3 x4 x5 x6 x7 x8 y1 y2 y3 y4 y5 y6 y7 y8;omega
  obtain⟨rfl,rfl⟩:=z1
  have key:=fun y z w:Int=>sm (a:=0) (a':=0) (x:=0) (y:=y) (z:=z) (w:=w) hb hc hd hb' hc' hd' k1 k2 (.inl rfl)
  rw[dh,pa HT HT,pa HT HT,x2,x5,x6,y2,y5,y6]
  clear k1 k2 k3 x1 x2 x3 x4 x5 x6 x7 x8 y1 y2 y3 y4 y5 y6 y7 y8
  show je [(_,_),(_,_),(_,_)] l↔_
  rw[fw]
  constructor
  ·rintro⟨u,l',rfl,h1,h2⟩
   obtain⟨v,l',rfl,h2,h3⟩:=fw.1 h2
   obtain⟨w,rfl,h3⟩:=oe.1 h3
   simp only at h1 h2 h3
   have g:=(key (u-224) (v-128) (w-128)).1 HT
   clear key
   have e:(u-224)*4096+(v-128)*64+(w-128)=0*262144+(u-224)*4096+(v-128)*64+(w-128):=by omega
   obtain⟨g1,g2,g3,g4,g5,g6,g7,g8⟩:=fp e g.1 g.2.1 g.2.2.1
   refine⟨(u-224)*4096+(v-128)*64+(w-128),by omega,by omega,?_⟩
   rw[pa HT HT,g2,g5,g6]
   clear g1 g2 g3 g4 g5 g6 g7 g8
   congr 1
   ·omega
   ·congr 1
    ·omega
    ·congr 1;omega
  ·rintro⟨x,h1,h2,rfl⟩
   obtain⟨p,q,r,t,ex,hp,hq,hr,ht⟩:=dig (show 0≤x by omega)
   have z2:p=0:=by clear key;omega
   obtain rfl:=z2
   obtain⟨g1,g2,g3,g4,g5,g6,g7,g8⟩:=fp ex hq hr ht
   have g:=(key q r t).2 HT
   rw[pa HT HT,g2,g5,g6]
   clear key g1 g2 g3 g4 g5 g6 g7 g8
   refine⟨_,_,rfl,?_,fw.2 ⟨_,_,rfl,?_,oe.2 ⟨_,rfl,?_⟩⟩⟩
   ·simp only;omega
   ·simp only;omega
   ·simp only;omega
 ·have hs:bq s.lo=4:=by unfold bq;rw[if_neg HT,if_neg HT,if_neg HT]
  have k1:=k1 HT
  have k2:=k2 HT
  have k3:=k3 HT
  have key:=fun x y z w:Int=>sm (x:=x) (y:=y) (z:=z) (w:=w) hb hc hd hb' hc' hd' k1 k2 k3
  rw[dh,qm HT,qm HT,x1,x4,x5,x6,y1,y4,y5,y6]
  clear k1 k2 k3 x1 x2 x3 x4 x5 x6 x7 x8 y1 y2 y3 y4 y5 y6 y7 y8
  show je [(_,_),(_,_),(_,_),(_,_)] l↔_
  rw[fw]
  constructor
  ·rintro⟨u,l',rfl,h1,h2⟩
   obtain⟨v,l',rfl,h2,h3⟩:=fw.1 h2
   obtain⟨w,l',rfl,h3,h4⟩:=fw.1 h3
   obtain⟨o,rfl,h4⟩:=oe.1 h4
   simp only at h1 h2 h3 h4
   have g:=(key (u-240) (v-128) (w-128) (o-128)).1 HT
   clear key
   obtain⟨g1,g2,g3,g4,g5,g6,g7,g8⟩:=fp (x:=(u-240)*262144+(v-128)*4096+(w-128)*64+(o-128)) rfl g.1 g.2.1 g.2.2.1
   refine⟨(u-240)*262144+(v-128)*4096+(w-128)*64+(o-128),by omega,by omega,?_⟩
   rw[qm HT,g1,g4,g5,g6]
   clear g1 g2 g3 g4 g5 g6 g7 g8
   congr 1
   ·omega
   ·congr 1
    ·omega
    ·congr 1
     ·omega
     ·congr 1;omega
  ·rintro⟨x,h1,h2,rfl⟩
   obtain⟨p,q,r,t,ex,hp,hq,hr,ht⟩:=dig (show 0≤x by omega)
   obtain⟨g1,g2,g3,g4,g5,g6,g7,g8⟩:=fp ex hq hr ht
   have g:=(key p q r t).2 HT
   rw[qm HT,g1,g4,g5,g6]
   clear key g1 g2 g3 g4 g5 g6 g7 g8
   refine⟨_,_,rfl,?_,fw.2 ⟨_,_,rfl,?_,fw.2 ⟨_,_,rfl,?_,oe.2 ⟨_,rfl,?_⟩⟩⟩⟩
   ·simp only;omega
   ·simp only;omega
   ·simp only;omega
   ·simp only;omega
end
section
open Go
def eQ:List Int→am→Int
 | [],_=>0
 | m::ms,s=>if s.lo / m=s.hi / m then eQ ms s else if s.lo%m≠0 then(s.lo / m+1)*m else if s.hi%m≠m-1 then s.hi / m*m else eQ ms s
def gP:Nat→List Int
 | 2=>[64]
 | 3=>[64,4096]
 | 4=>[64,4096,262144]
 | _=>[]
def d3 (s:am):Int:=eQ (gP (bq s.lo)) s
theorem t4 {ms:List Int}(hm:∀ m∈ms,m=64∨m=4096∨m=262144){s:am}(h0:0≤s.lo)(hle:s.lo≤s.hi):(eQ ms s=0∧∀ m∈ms,gN m s)∨(s.lo<eQ ms s∧eQ ms s≤s.hi):=by
 induction ms with
 | nil=>exact .inl ⟨rfl,by simp⟩
 | cons m ms ih =>
  have ih:=ih fun m hm2=>hm m (by simp[hm2])
  have hm:=hm m HU
  unfold eQ
  split
  ·rename_i h1
   rcases ih with⟨i1,i2⟩|i1
   ·refine .inl ⟨i1,fun q hq=>?_⟩
    rcases List.mem_cons.1 hq with rfl|hq
    ·exact .inl h1
    ·exact i2 q hq
   ·exact .inr i1
  ·rename_i h1
   split
   ·rename_i h2
    right
    rcases hm with rfl|rfl|rfl<;>omega
   ·rename_i h2
    split
    ·rename_i h3
     right
     rcases hm with rfl|rfl|rfl<;>omega
    ·rename_i h3
     rcases ih with⟨i1,i2⟩|i1
     ·refine .inl ⟨i1,fun q hq=>?_⟩
      rcases List.mem_cons.1 hq with rfl|hq
      ·exact .inr ⟨by omega,by omega⟩
      ·exact i2 q hq
     ·exact .inr i1
theorem nk {n:Nat}:∀ m∈gP n,m=64∨m=4096∨m=262144:=by
 intro m hm
 unfold gP at hm
 split at hm<;>simp at hm<;>omega
theorem nn {s:am}(h0:0≤s.lo)(hle:s.lo≤s.hi):d3 s=0∨(s.lo<d3 s∧d3 s≤s.hi):=by
 rcases t4 (ms:=gP (bq s.lo)) nk h0 hle with h|h
 ·exact .inl h.1
 ·exact .inr h
theorem FA {s:am}(h:OneSize s)(hp:d3 s=0):CF s:=by
 rcases t4 (ms:=gP (bq s.lo)) nk h.lo h.le with h1|h1
 ·have h2:=h1.2
  have hr:=de s.lo
  refine⟨h,fun q=>?_,fun q=>?_,fun q=>?_⟩
  ·have:bq s.lo=2∨bq s.lo=3∨bq s.lo=4:=by omega
   rcases this with e|e|e<;>rw[e]at h2<;>exact h2 _ (by simp[gP])
  ·have:bq s.lo=3∨bq s.lo=4:=by omega
   rcases this with e|e<;>rw[e]at h2<;>exact h2 _ (by simp[gP])
  ·have e:bq s.lo=4:=by omega
   rw[e]at h2
   exact h2 _ (by simp[gP])
 ·have:s.lo<d3 s:=h1.1
  have:=h.lo
  omega
def gl (s:am):List am:=if h:s.lo<d3 s∧d3 s≤s.hi then gl ⟨s.lo,d3 s-1⟩++gl ⟨d3 s,s.hi⟩ else [s]
termination_by (s.hi-s.lo).toNat
decreasing_by
 all_goals omega
theorem kw {x y:Int}(h:x≤y):bq x≤bq y:=by
 unfold bq
 repeat' split
 all_goals omega
theorem oW {s:am}(h:OneSize s){x:Int}(h1:s.lo<x)(h2:x≤s.hi):OneSize ⟨s.lo,x-1⟩∧OneSize ⟨x,s.hi⟩:=by
 have a1:=kw (x:=s.lo) (y:=x-1) HT
 have a2:=kw (x:=x-1) (y:=x) HT
 have a3:=kw (x:=x) (y:=s.hi) h2
 have a4:=h.size
 have b1:=h.lo
 have b2:=h.hi
 exact⟨⟨b1,by show s.lo≤x-1;omega,by show x-1≤_;omega,by show bq s.lo=bq (x-1);omega⟩,⟨by show 0≤x;omega,h2,b2,by show bq x=bq s.hi;omega⟩⟩
theorem j6 (s:am)(h:OneSize s):(∀ q∈gl s,CF q)∧(∀ x,inS (gl s) x↔s.lo≤x∧x≤s.hi)∧(gl s).Pairwise fun a b=>a.hi<b.lo:=by
 unfold gl
 split
 ·rename_i hx
  obtain⟨h1,h2⟩:=oW h hx.1 hx.2
  obtain⟨a1,a2,a3⟩:=j6 _ h1
  obtain⟨b1,b2,b3⟩:=j6 _ h2
  refine⟨fun q hq=>?_,fun x=>?_,?_⟩
  ·rcases List.mem_append.1 hq with hq|hq
   ·exact a1 q hq
   ·exact b1 q hq
  ·have e:inS (gl ⟨s.lo,d3 s-1⟩++gl ⟨d3 s,s.hi⟩) x↔inS (gl ⟨s.lo,d3 s-1⟩) x∨inS (gl ⟨d3 s,s.hi⟩) x:=by
    unfold inS
    simp only[List.mem_append]
    constructor
    ·rintro⟨q,hq|hq,h⟩
     ·exact .inl ⟨q,hq,h⟩
     ·exact .inr ⟨q,hq,h⟩
    ·rintro(⟨q,hq,h⟩|⟨q,hq,h⟩)
     ·exact⟨q,.inl hq,h⟩
     ·exact⟨q,.inr hq,h⟩
   rw[e,a2,b2]
   simp only
   omega
  ·rw[List.pairwise_append]
   refine⟨a3,b3,fun p hp q hq=>?_⟩
   have g1:=(a1 p hp).le
   have g2:=(b1 q hq).le
   have c1:=(a2 p.hi).1 ⟨p,hp,g1,Int.le_refl _⟩
   have c2:=(b2 q.lo).1 ⟨q,hq,Int.le_refl _,g2⟩
   simp only at c1 c2
   omega
 ·rename_i hx
  have hp:d3 s=0:=(nn h.lo h.le).resolve_right hx
  refine⟨fun q hq=>?_,fun x=>?_,by simp⟩
  ·simp only[List.mem_singleton]at hq
   subst hq
   exact FA h hp
  ·unfold inS
   simp
termination_by (s.hi-s.lo).toNat
decreasing_by
 all_goals omega
def ii:List (Int×Int):=[(0,127),(128,2047),(2048,65535),(65536,1114111)]
def cJ (s:am):List am:=ii.filterMap fun p=>if max s.lo p.1≤min s.hi p.2 then some ⟨max s.lo p.1,min s.hi p.2⟩ else none
theorem ku {s q:am}:q∈cJ s↔∃ p∈ii,max s.lo p.1≤min s.hi p.2∧q=⟨max s.lo p.1,min s.hi p.2⟩:=by
 unfold cJ
 rw[List.mem_filterMap]
 constructor
 ·rintro⟨p,hp,h⟩
  split at h
  ·exact⟨p,hp,by assumption,(Option.some.inj h).symm⟩
  ·cases h
 ·rintro⟨p,hp,h1,rfl⟩
  exact⟨p,hp,if_pos h1⟩
theorem kp {s q:am}(h:q∈cJ s):OneSize q:=by
 obtain⟨p,hp,h1,rfl⟩:=ku.1 h
 simp only[ii,List.mem_cons,List.not_mem_nil,or_false]at hp
 rcases hp with rfl|rfl|rfl|rfl<;>simp only at h1 ⊢
 ·exact⟨by simp only;omega,h1,by simp only;omega,by simp only[bq];rw[if_pos HT,if_pos HT]⟩
 ·exact⟨by simp only;omega,h1,by simp only;omega,by simp only[bq];rw[if_neg HT,if_pos HT,if_neg HT,if_pos HT]⟩
 ·exact⟨by simp only;omega,h1,by simp only;omega,by simp only[bq];rw[if_neg HT,if_neg HT,if_pos HT,if_neg HT,if_neg HT,if_pos HT]⟩
 ·exact⟨by simp only;omega,h1,by simp only;omega,by simp only[bq];rw[if_neg HT,if_neg HT,if_neg HT,if_neg HT,if_neg HT,if_neg HT]⟩
theorem tR {s:am}(h0:0≤s.lo)(h1:s.hi≤1114111)(x:Int):inS (cJ s) x↔s.lo≤x∧x≤s.hi:=by
 constructor
 ·rintro⟨q,hq,hx⟩
  obtain⟨p,hp,h2,rfl⟩:=ku.1 hq
  simp only at hx
  omega
 ·intro hx
  have:∃ p∈ii,p.1≤x∧x≤p.2:=by
   by_cases c1:x<128
   ·exact⟨(0,127),by simp[ii],by simp only;omega,by simp only;omega⟩
   ·by_cases c2:x<2048
    ·exact⟨(128,2047),by simp[ii],by simp only;omega,by simp only;omega⟩
    ·by_cases c3:x<65536
     ·exact⟨(2048,65535),by simp[ii],by simp only;omega,by simp only;omega⟩
     ·exact⟨(65536,1114111),by simp[ii],by simp only;omega,by simp only;omega⟩
  obtain⟨p,hp,h2,h3⟩:=this
  exact⟨_,ku.2 ⟨p,hp,by omega,rfl⟩,by simp only;omega,by simp only;omega⟩
theorem sU (s:am):(cJ s).Pairwise fun a b=>a.hi<b.lo:=by
 unfold cJ
 refine List.Pairwise.filterMap _ (R:=fun a b:Int×Int=>a.2<b.1) (fun a b hab x hx y hy=>?_) (by simp[ii])
 split at hx
 ·split at hy
  ·have hx:=Option.some.inj (Option.mem_def.1 hx)
   have hy:=Option.some.inj (Option.mem_def.1 hy)
   subst hx hy
   simp only
   omega
  ·cases hy
 ·cases hx
def d5 (l:List am):List am:=((aZ l).flatMap cJ).flatMap gl
def cO (l:List am):List (List (Int×Int)):=(d5 l).map dh
theorem mF {l:List am}{s:am}(h:s∈aZ l):0≤s.lo∧s.hi≤1114111∧s.lo≤s.hi:=by
 have hc:=(jb l).1
 have hle:=hc.2 s h
 have h1:=(gH (l:=l) (x:=s.lo)).1 ⟨s,h,Int.le_refl _,hle⟩
 have h2:=(gH (l:=l) (x:=s.hi)).1 ⟨s,h,hle,Int.le_refl _⟩
 have h1:=h1.1
 have h2:=h2.1
 simp only[eI,Bool.and_eq_true,Bool.or_eq_true,decide_eq_true_eq]at h1 h2
 omega
theorem pJ {f:am→List am}:∀ {L:List am},L.Pairwise (fun a b=>a.hi<b.lo)→(∀ s∈L,∀ q∈f s,s.lo≤q.lo∧q.hi≤s.hi)→(∀ s∈L,(f s).Pairwise fun a b=>a.hi<b.lo)→(L.flatMap f).Pairwise fun a b=>a.hi<b.lo
 | [],_,_,_=>by simp
 | s::L,h1,h2,h3=>by
  rw[List.flatMap_cons,List.pairwise_append]
  obtain⟨g1,g2⟩:=List.pairwise_cons.1 h1
  refine⟨h3 s HU,pJ g2 (fun t ht=>h2 t (by simp[ht])) (fun t ht=>h3 t (by simp[ht])),fun a ha b hb=>?_⟩
  obtain⟨t,ht,hb⟩:=List.mem_flatMap.1 hb
  have c1:=h2 s HU a ha
  have c2:=h2 t (by simp[ht]) b hb
  have c3:=g1 t ht
  omega
theorem hZ (l:List am):(∀ q∈d5 l,CF q)∧(∀ x,inS (d5 l) x↔inS (aZ l) x)∧(d5 l).Pairwise fun a b=>a.hi<b.lo:=by
 have hone:∀ q∈(aZ l).flatMap cJ,OneSize q:=fun q hq=>by
  obtain⟨s,_,hq⟩:=List.mem_flatMap.1 hq
  exact kp hq
 have hin:∀ {L:List am} {f:am→List am},(∀ s∈L,∀ x,inS (f s) x↔s.lo≤x∧x≤s.hi)→∀ x,inS (L.flatMap f) x↔inS L x:=by
  intro L f hf x
  constructor
  ·rintro⟨q,hq,hx⟩
   obtain⟨s,hs,hq⟩:=List.mem_flatMap.1 hq
   exact⟨s,hs,(hf s hs x).1 ⟨q,hq,hx⟩⟩
  ·rintro⟨s,hs,hx⟩
   obtain⟨q,hq,hx⟩:=(hf s hs x).2 hx
   exact⟨q,List.mem_flatMap.2 ⟨s,hs,hq⟩,hx⟩
 have hc:=(jb l).1
 have hnp:(aZ l).Pairwise fun a b=>a.hi<b.lo:=hc.1.imp fun {a b} h=>by omega
 refine⟨fun q hq=>?_,fun x=>?_,?_⟩
 ·obtain⟨s,hs,hq⟩:=List.mem_flatMap.1 hq
  exact(j6 s (hone s hs)).1 q hq
 ·unfold d5
  rw[hin (fun s hs=>(j6 s (hone s hs)).2.1),hin (fun s hs=>tR (mF hs).1 (mF hs).2.1)]
 ·unfold d5
  refine pJ (pJ hnp (fun s hs q hq=>?_) (fun s hs=>sU s)) (fun s hs q hq=>?_) (fun s hs=>(j6 s (hone s hs)).2.2)
  ·obtain⟨p,hp,h1,rfl⟩:=ku.1 hq
   exact⟨by simp only;omega,by simp only;omega⟩
  ·obtain⟨k1,k2,k3⟩:=j6 s (hone s hs)
   have g:=(k1 q hq).le
   exact⟨((k2 q.lo).1 ⟨q,hq,Int.le_refl _,g⟩).1,((k2 q.hi).1 ⟨q,hq,g,Int.le_refl _⟩).2⟩
def HO:List Int→Int
 | [a]=>a
 | [a,b]=>(a-192)*64+(b-128)
 | [a,b,c]=>(a-224)*4096+(b-128)*64+(c-128)
 | [a,b,c,d]=>(a-240)*262144+(b-128)*4096+(c-128)*64+(d-128)
 | _=>0
theorem zP {x:Int}(h:0≤x):HO (bG x)=x:=by
 obtain⟨a,b,c,d,e,ha,hb,hc,hd⟩:=dig h
 obtain⟨g1,g2,g3,g4,g5,g6,g7,g8⟩:=fp e hb hc hd
 unfold bG
 split
 ·rfl
 ·split
  ·rw[g3,g6];show(_-_)*_+_=_;omega
  ·split
   ·rw[g2,g5,g6];show(_-_)*_+_+_=_;omega
   ·rw[g1,g4,g5,g6];show(_-_)*_+_+_+_=_;omega
def FS (c:Int):Nat:=if c<192 then 1 else if c<224 then 2 else if c<240 then 3 else 4
theorem xr {x:Int}(h:0≤x):∃ c t,bG x=c::t∧FS c=bq x∧(c<128∨(194≤c∧(x≤1114111→c≤244))):=by
 unfold bG bq FS
 split
 ·exact⟨_,_,rfl,by rw[if_pos HT],.inl HT⟩
 ·split
  ·exact⟨_,_,rfl,by rw[if_neg HT,if_pos HT],.inr ⟨by omega,fun _=>by omega⟩⟩
  ·split
   ·exact⟨_,_,rfl,by rw[if_neg HT,if_neg HT,if_pos HT],.inr ⟨by omega,fun _=>by omega⟩⟩
   ·exact⟨_,_,rfl,by rw[if_neg HT,if_neg HT,if_neg HT],.inr ⟨by omega,fun _=>by omega⟩⟩
theorem D8 {x y:Int}(hx:0≤x)(hy:0≤y){t:List Int}(h:bG x++t=bG y):x=y∧t=[]:=by
 obtain⟨c,u,e1,s1,_⟩:=xr hx
 obtain⟨d,w,e2,s2,_⟩:=xr hy
 have h1:=h
 rw[e1,e2]at h1
 injection h1 with h1 h2
 subst h1
 have hl:(bG x++t).length=(bG y).length:=by rw[h]
 rw[List.length_append,dI,dI]at hl
 have ht:t=[]:=List.eq_nil_of_length_eq_zero HT
 subst ht
 rw[List.append_nil]at h
 exact⟨by rw[← zP hx,← zP hy,h],rfl⟩
end
section
open Go
abbrev il:=List (Int×Int)
abbrev Way:=il×Int
def dy (l:List Way)(c:Int):List Way:=l.filterMap fun w=>match w.1 with
 | []=>none
 | p::r=>if p.1≤c∧c≤p.2 then some (r,w.2) else none
inductive Stp where
 | none
 | own (i:Int)
 | amid (l:List Way)
def kR (l:List Way)(c:Int):Stp:=match (dy l c).find? fun w=>w.1.isEmpty with
 | some w => .own w.2
 | none=>if dy l c=[] then .none else .amid (dy l c)
theorem gX {l:List Way}{c:Int}{v:Way}:v∈dy l c↔∃ p,(p::v.1,v.2)∈l∧p.1≤c∧c≤p.2:=by
 unfold dy
 rw[List.mem_filterMap]
 constructor
 ·rintro⟨⟨r,t⟩,hw,h⟩
  cases r with
  | nil=>cases h
  | cons p r =>
   simp only at h
   split at h
   ·rename_i hc
    have:=Option.some.inj h
    subst this
    exact⟨p,hw,hc⟩
   ·cases h
 ·rintro⟨p,hp,hc⟩
  exact⟨_,hp,by simp only;rw[if_pos hc]⟩
theorem sd {r:il}(h:∀ p∈r,p.1≤p.2):∃ b,je r b:=by
 induction r with
 | nil=>exact⟨[],trivial⟩
 | cons p r ih =>
  obtain⟨b,hb⟩:=ih fun q hq=>h q (by simp[hq])
  exact⟨p.1::b,⟨Int.le_refl _,h p HU⟩,hb⟩
def dO (parts:List (List am))(next:List Int):List Way:=(parts.zip next).flatMap fun p=>if p.2 = -1 then [] else(cO p.1).map fun r=>(r,p.2)
theorem iN {parts:List (List am)}{next:List Int}{w:Way}:w∈dO parts next↔∃ (k:Nat) (p:List am),parts[k]?=some p∧next[k]?=some w.2∧w.2 ≠ -1∧w.1∈cO p:=by
 unfold dO
 rw[List.mem_flatMap]
 constructor
 ·rintro⟨⟨p,t⟩,hp,h⟩
  simp only at h
  split at h
  ·cases h
  ·rename_i ht
   obtain⟨r,hr,rfl⟩:=List.mem_map.1 h
   obtain⟨k,hk⟩:=List.getElem?_of_mem hp
   obtain⟨a1,a2⟩:=List.getElem?_zip_eq_some.1 hk
   exact⟨k,p,a1,a2,ht,hr⟩
 ·rintro⟨k,p,h1,h2,h3,h4⟩
  refine⟨(p,w.2),List.mem_of_getElem? (List.getElem?_zip_eq_some.2 ⟨h1,h2⟩),?_⟩
  simp only
  rw[if_neg h3]
  exact List.mem_map.2 ⟨w.1,h4,rfl⟩
def EM (parts:List (List am)):Prop:=∀ (i j:Nat) (p q:List am),parts[i]?=some p→parts[j]?=some q→∀ x,inS (aZ p) x→inS (aZ q) x→i=j
theorem qc {l:List am}{x:Int}(h:inS (aZ l) x):0≤x∧x≤1114111:=by
 have h1:=er.1 (gH.1 h).1
 omega
theorem E8 {l:List am}{r:il}(h:r∈cO l):r≠[]∧∀ p∈r,p.1≤p.2:=by
 obtain⟨s,hs,rfl⟩:=List.mem_map.1 h
 have hf:=(hZ l).1 s hs
 have h1:=(uZ hf (bG s.lo)).2 ⟨s.lo,Int.le_refl _,hf.le,rfl⟩
 have key:∀ {r:il} {b:List Int},je r b→∀ p∈r,p.1≤p.2:=by
  intro r
  induction r with
  | nil=>intro b _ p hp;cases hp
  | cons q r ih =>
   intro b hb p hp
   obtain⟨c,b',rfl,h1,h2⟩:=fw.1 hb
   rcases List.mem_cons.1 hp with rfl|hp
   ·omega
   ·exact ih h2 p hp
 refine⟨fun e=>?_,key h1⟩
 have hl:(dh s).length=0:=by rw[e];rfl
 unfold dh at hl
 rw[List.length_zip,dI,dI]at hl
 have:=de s.lo
 have:=de s.hi
 omega
end
section
open Go
def cv {α:Type}[DecidableEq α](L:List α)(to:Option α):List α:=match to with
 | none=>L
 | some a=>if a∈L then L else L++[a]
def cB {α:Type}[DecidableEq α](L:List α)(tos:List (Option α)):List α:=tos.foldl cv L
def fS {α:Type}[DecidableEq α](L:List α)(to:Option α):Int:=match to with
 | none => -1
 | some a=>(L.idxOf a:Nat)
def ee {α:Type}[DecidableEq α](row:α→List (Option α))(s0:α):Nat→List α
 | 0=>[s0]
 | i+1=>match (ee row s0 i)[i]? with
  | none=>ee row s0 i
  | some a=>cB (ee row s0 i) (row a)
theorem nV {α:Type}[DecidableEq α](L:List α)(to:Option α):L <+: cv L to:=by
 cases to with
 | none=>exact List.prefix_refl _
 | some a =>
  show L <+: if a∈L then L else L++[a]
  split
  ·exact List.prefix_refl _
  ·exact List.prefix_append _ _
theorem kP {α:Type}[DecidableEq α](tos:List (Option α)):∀ L:List α,L <+: cB L tos:=by
 induction tos with
 | nil=>exact fun L=>List.prefix_refl _
 | cons a tos ih=>exact fun L=>(nV L a).trans (ih _)
theorem xZ {α:Type}[DecidableEq α]{L:List α}{a:α}:a∈cv L (some a):=by
 show a∈if a∈L then L else L++[a]
 split
 ·assumption
 ·simp
theorem pV {α:Type}[DecidableEq α]{tos:List (Option α)}:∀ {L:List α} {a:α},some a∈tos→a∈cB L tos:=by
 induction tos with
 | nil=>intro L a h;cases h
 | cons b tos ih =>
  intro L a h
  rcases List.mem_cons.1 h with rfl|h
  ·exact(kP tos _).subset xZ
  ·exact ih h
theorem uF {α:Type}[DecidableEq α](L:List α)(tos:List (Option α))(to:Option α):cB L (tos++[to])=cv (cB L tos) to:=by simp[cB]
theorem uG {α:Type}[DecidableEq α]{L:List α}(h:L.Nodup)(to:Option α):(cv L to).Nodup:=by
 cases to with
 | none=>exact h
 | some a =>
  show(if a∈L then L else L++[a]).Nodup
  split
  ·exact h
  ·rename_i h1
   rw[List.nodup_append]
   refine⟨h,by simp,fun x hx y hy e=>?_⟩
   simp only[List.mem_singleton]at hy
   subst hy e
   exact h1 hx
theorem nK {α:Type}[DecidableEq α]:∀ {tos:List (Option α)} {L:List α},L.Nodup→(cB L tos).Nodup
 | [],_,h=>h
 | to::tos,_,h=>nK (tos:=tos) (uG h to)
theorem mo {α:Type}[DecidableEq α]:∀ {tos:List (Option α)} {L:List α} {a:α},a∈cB L tos→a∈L∨some a∈tos
 | [],_,_,h => .inl h
 | to::tos,L,a,h=>by
  rcases mo (tos:=tos) (L:=cv L to) h with h|h
  ·cases to with
   | none=>exact .inl h
   | some b =>
    change a∈(if b∈L then L else L++[b]) at h
    split at h
    ·exact .inl h
    ·rcases List.mem_append.1 h with h|h
     ·exact .inl h
     ·simp only[List.mem_singleton]at h
      subst h
      exact .inr HU
  ·exact .inr (by simp[h])
theorem EI {α:Type}[DecidableEq α](row:α→List (Option α))(s0:α)(i:Nat):ee row s0 i <+: ee row s0 (i+1):=by
 rw[ee]
 split
 ·exact List.prefix_refl _
 ·exact kP _ _
theorem nC {α:Type}[DecidableEq α](row:α→List (Option α))(s0:α){i:Nat}:∀ {j:Nat},i≤j→ee row s0 i <+: ee row s0 j:=by
 intro j
 induction j with
 | zero =>
  intro h;have:i=0:=by omega
  subst this;exact List.prefix_refl _
 | succ j ih =>
  intro h
  by_cases e:i=j+1
  ·subst e;exact List.prefix_refl _
  ·exact(ih HT).trans (EI row s0 j)
theorem nB {α:Type}[DecidableEq α](row:α→List (Option α))(s0:α){i:Nat}(h:(ee row s0 i).length≤i):∀ {j:Nat},i≤j→ee row s0 j=ee row s0 i:=by
 intro j
 induction j with
 | zero =>
  intro hj;have:i=0:=by omega
  subst this;rfl
 | succ j ih =>
  intro hj
  by_cases e:i=j+1
  ·subst e;rfl
  ·have h1:=ih HT
   rw[ee,h1,List.getElem?_eq_none HT]
theorem sG {α:Type}[DecidableEq α](row:α→List (Option α))(s0:α)(i:Nat):1≤(ee row s0 i).length:=by
 have:=(nC row s0 (Nat.zero_le i)).length_le
 simpa[ee] using this
theorem ow {α:Type}[DecidableEq α](row:α→List (Option α))(s0:α):∀ i,(ee row s0 i).Nodup
 | 0=>by simp[ee]
 | i+1=>by
  rw[ee]
  split
  ·exact ow row s0 i
  ·exact nK (ow row s0 i)
theorem xR {α:Type}[DecidableEq α]{row:α→List (Option α)}{s0:α}{i j:Nat}{a:α}(ha:(ee row s0 i)[i]?=some a)(hij:i+1≤j){b:α}(h:some b∈row a):b∈ee row s0 j:=by
 have e:ee row s0 (i+1)=cB (ee row s0 i) (row a):=by rw[ee,ha]
 have h1:=pV (L:=ee row s0 i) h
 rw[← e]at h1
 exact(nC row s0 hij).subset h1
theorem sH {α:Type}[DecidableEq α]{row:α→List (Option α)}{s0:α}{P:α→Prop}(h0:P s0)(hs:∀ a b,P a→some b∈row a→P b):∀ i,∀ a∈ee row s0 i,P a
 | 0,a,h=>by
  simp only[ee,List.mem_singleton]at h
  subst h
  exact h0
 | i+1,a,h=>by
  have ih:=sH h0 hs i
  rw[ee]at h
  split at h
  ·exact ih a h
  ·rename_i b hb
   rcases mo h with h|h
   ·exact ih a h
   ·exact hs b a (ih b (List.mem_of_getElem? hb)) h
theorem rQ {α:Type}[DecidableEq α]{L M:List α}(h:L <+: M){to:Option α}(ht:∀ a,to=some a→a∈L):fS M to=fS L to:=by
 cases to with
 | none=>rfl
 | some a =>
  obtain⟨t,rfl⟩:=h
  show(((L++t).idxOf a:Nat):Int)=(L.idxOf a:Nat)
  rw[List.idxOf_append,if_pos (ht a rfl)]
theorem t0 {α:Type}[DecidableEq α]{L:List α}{a:α}(h:a∈L):∃ q:Nat,fS L (some a)=q∧q<L.length∧L[q]?=some a:=by
 have h1:=List.idxOf_lt_length_iff.2 h
 exact⟨L.idxOf a,rfl,h1,by rw[List.getElem?_eq_getElem h1,List.getElem_idxOf]⟩
theorem xS {α:Type}[DecidableEq α]{row:α→List (Option α)}{s0:α}{m:Nat}(hle:(ee row s0 m).length≤m){a:α}{s:Nat}(ha:(ee row s0 m)[s]?=some a){b:α}(h:some b∈row a):b∈ee row s0 m:=by
 have hlt:=lt_of_getElem? ha
 have h4:=nC row s0 (show s≤m by omega)
 have h5:(ee row s0 s)[s]?=some a:=by
  by_cases h5:s<(ee row s0 s).length
  ·obtain⟨t,e⟩:=h4
   rw[← e,List.getElem?_append_left h5]at ha
   exact ha
  ·have h6:=nB row s0 (i:=s) HT (show s≤m by omega)
   rw[h6]at ha
   exact ha
 exact xR h5 HT h
def ja {α:Type}[DecidableEq α](row:α→List (Option α))(A:List α):List (List Int):=A.map fun a=>(row a).map (fS A)
theorem tS {α:Type}[DecidableEq α]{row:α→List (Option α)}{s0:α}{m p:Nat}(hle:(ee row s0 m).length≤m)(hp:∀ a,(row a).length=p):∀ r∈ja row (ee row s0 m),r.length=p∧∀ x∈r,x = -1∨In (ee row s0 m).length x:=by
 intro r hr
 obtain⟨a,ha,rfl⟩:=List.mem_map.1 hr
 refine⟨by rw[List.length_map,hp],fun x hx=>?_⟩
 obtain⟨to,hto,rfl⟩:=List.mem_map.1 hx
 cases to with
 | none=>exact .inl rfl
 | some b =>
  obtain⟨s,hs⟩:=List.getElem?_of_mem ha
  obtain⟨q,hq,hql,_⟩:=t0 (xS hle hs hto)
  rw[hq]
  right
  unfold In
  omega
end
end Go.Proofs.YtlnobeojgifojaaGreatDoor
