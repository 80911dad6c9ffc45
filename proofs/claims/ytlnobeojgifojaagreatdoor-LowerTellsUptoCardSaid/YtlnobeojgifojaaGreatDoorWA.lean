/- Scalars as bytes, plainly: spans cut till they are rows of ranges. -/
import Derived.Test.YtlnobeojgifojaaGreatDoorD1
import Derived.Test.YtlnobeojgifojaaGreatDoorP1
set_option linter.unusedVariables false
set_option linter.unusedSimpArgs false
namespace Go.Proofs.YtlnobeojgifojaaGreatDoor
section
open Go
def bt (r:Int):List Int :=
 if r<128 then [r] else if r<2048 then [192+r / 64,128+r%64]
 else if r<65536 then [224+r / 4096,128+r / 64%64,128+r%64]
 else [240+r / 262144,128+r / 4096%64,128+r / 64%64,128+r%64]
def bF (r:Int):Nat:=if r<128 then 1 else if r<2048 then 2 else if r<65536 then 3 else 4
theorem dq (r:Int):(bt r).length=bF r:=by
 unfold bt bF
 split
 ·rfl
 ·split
  ·rfl
  ·split<;>rfl
theorem dn (r:Int):1≤bF r∧bF r≤4:=by
 unfold bF
 split
 ·omega
 ·split
  ·omega
  ·split<;>omega
def ii:List (Int×Int)→List Int→Prop
 | [],[]=>True
 | p::r,c::b=>(p.1≤c∧c≤p.2)∧ii r b
 | _,_=>False
def d5 (s:aj):List (Int×Int):=(bt s.lo).zip (bt s.hi)
def ja (m:Int)(s:aj):Prop:=s.lo / m=s.hi / m∨(s.lo%m=0∧s.hi%m=m-1)
structure OneSize (s:aj):Prop where
 lo:0≤s.lo
 le:s.lo≤s.hi
 hi:s.hi≤1114111
 size:bF s.lo=bF s.hi
structure FJ (s:aj):Prop extends OneSize s where
 a1:1<bF s.lo→ja 64 s
 a2:2<bF s.lo→ja 4096 s
 a3:3<bF s.lo→ja 262144 s
theorem tO {s:aj}(h:OneSize s):(s.hi<128)∨(128≤s.lo∧s.hi<2048)∨(2048≤s.lo∧s.hi<65536)∨(65536≤s.lo):=by
 have h1:=h.size
 have h2:=h.le
 unfold bF at h1
 repeat' split at h1
 all_goals omega
theorem qg {p:Int×Int}{b:List Int}:ii [p] b↔∃ c,b=[c]∧p.1≤c∧c≤p.2:=by
 constructor
 ·intro h
  match b,h with
  | [c],h=>exact⟨c,rfl,h.1⟩
 ·rintro⟨c,rfl,h⟩
  exact⟨h,trivial⟩
theorem gq {p:Int×Int}{r:List (Int×Int)}{b:List Int}:ii (p::r) b↔∃ c b',b=c::b'∧(p.1≤c∧c≤p.2)∧ii r b':=by
 constructor
 ·intro h
  match b,h with
  | c::b',h=>exact⟨c,b',rfl,h⟩
 ·rintro⟨c,b',rfl,h⟩
  exact h
theorem dig {x:Int}(h:0≤x):∃ a b c d:Int,x=a*262144+b*4096+c*64+d∧0≤a∧(0≤b∧b<64)∧(0≤c∧c<64)∧(0≤d∧d<64) :=
 ⟨x / 262144,x / 4096%64,x / 64%64,x%64,by omega,by omega,by omega,by omega,by omega⟩
theorem gj {x a b c d:Int}(h:x=a*262144+b*4096+c*64+d)(hb:0≤b∧b<64)(hc:0≤c∧c<64)(hd:0≤d∧d<64) :
  x / 262144=a∧x / 4096=a*64+b∧x / 64=a*4096+b*64+c∧x / 4096%64=b∧x / 64%64=c∧x%64=d∧x%4096=c*64+d∧x%262144=b*4096+c*64+d:=by
 have e1:x / 262144=a:=by omega
 have e2:x / 4096=a*64+b:=by omega
 have e3:x / 64=a*4096+b*64+c:=by omega
 refine⟨e1,e2,e3,?_,?_,?_,?_,?_⟩
 ·rw[e2];omega
 ·rw[e3];omega
 ·omega
 ·omega
 ·omega
theorem uJ {a b c d a' b' c' d' x y z w:Int}(hb:0≤b∧b<64)(hc:0≤c∧c<64)(hd:0≤d∧d<64)(hb':0≤b'∧b'<64)(hc':0≤c'∧c'<64)(hd':0≤d'∧d'<64)
  (e1:(a=a'∧b=b'∧c=c')∨(d=0∧d'=63)) (e2:(a=a'∧b=b')∨(c=0∧d=0∧c'=63∧d'=63)) (e3:a=a'∨(b=0∧c=0∧d=0∧b'=63∧c'=63∧d'=63)) :
  ((a≤x∧x≤a')∧(b≤y∧y≤b')∧(c≤z∧z≤c')∧(d≤w∧w≤d'))↔(0≤y∧y<64)∧(0≤z∧z<64)∧(0≤w∧w<64)∧a*262144+b*4096+c*64+d≤x*262144+y*4096+z*64+w∧x*262144+y*4096+z*64+w≤a'*262144+b'*4096+c'*64+d':=by
 rcases e3 with e3|⟨e3,e4,e5,e6,e7,e8⟩
 ·subst e3
  rcases e2 with⟨_,e2⟩|⟨e2,e4,e5,e6⟩
  ·subst e2
   rcases e1 with⟨_,_,e1⟩|⟨e1,e4⟩
   ·subst e1
    constructor
    ·rintro⟨h1,h2,h3,h4⟩
     obtain rfl:x=a:=by omega
     obtain rfl:y=b:=by omega
     obtain rfl:z=c:=by omega
     omega
    ·rintro⟨h1,h2,h3,h4,h5⟩
     obtain rfl:x=a:=by omega
     obtain rfl:y=b:=by omega
     obtain rfl:z=c:=by omega
     omega
   ·subst e1 e4
    constructor
    ·rintro⟨h1,h2,h3,h4⟩
     obtain rfl:x=a:=by omega
     obtain rfl:y=b:=by omega
     omega
    ·rintro⟨h1,h2,h3,h4,h5⟩
     obtain rfl:x=a:=by omega
     obtain rfl:y=b:=by omega
     omega
  ·subst e2 e4 e5 e6
   constructor
   ·rintro⟨h1,h2,h3,h4⟩
    obtain rfl:x=a:=by omega
    omega
   ·rintro⟨h1,h2,h3,h4,h5⟩
    obtain rfl:x=a:=by omega
    omega
 ·subst e3 e4 e5 e6 e7 e8
  constructor
  ·rintro⟨h1,h2,h3,h4⟩
   omega
  ·rintro⟨h1,h2,h3,h4,h5⟩
   omega
theorem sD {x:Int}(h:x<128):bt x=[x]:=by unfold bt;rw[if_pos h]
theorem sC {x:Int}(h1:128≤x)(h2:x<2048):bt x=[192+x / 64,128+x%64]:=by unfold bt;rw[if_neg Ll,if_pos h2]
theorem ra {x:Int}(h1:2048≤x)(h2:x<65536):bt x=[224+x / 4096,128+x / 64%64,128+x%64]:=by unfold bt;rw[if_neg Ll,if_neg Ll,if_pos h2]
theorem sB {x:Int}(h1:65536≤x):bt x=[240+x / 262144,128+x / 4096%64,128+x / 64%64,128+x%64]:=by unfold bt;rw[if_neg Ll,if_neg Ll,if_neg Ll]
theorem Jq {s:aj}{a b c d a' b' c' d':Int}(hlo:s.lo=a*262144+b*4096+c*64+d)(hb:0≤b∧b<64)(hc:0≤c∧c<64)(hd:0≤d∧d<64)(hhi:s.hi=a'*262144+b'*4096+c'*64+d')(hb':0≤b'∧b'<64)(hc':0≤c'∧c'<64)(hd':0≤d'∧d'<64)(h:ja 64 s):(a=a'∧b=b'∧c=c')∨(d=0∧d'=63):=by
 obtain⟨x1,x2,x3,x4,x5,x6,x7,x8⟩:=gj hlo hb hc hd
 obtain⟨y1,y2,y3,y4,y5,y6,y7,y8⟩:=gj hhi hb' hc' hd'
 unfold ja at h
 rw[x3,y3,x6,y6]at h
 omega
theorem Jp {s:aj}{a b c d a' b' c' d':Int}(hlo:s.lo=a*262144+b*4096+c*64+d)(hb:0≤b∧b<64)(hc:0≤c∧c<64)(hd:0≤d∧d<64)(hhi:s.hi=a'*262144+b'*4096+c'*64+d')(hb':0≤b'∧b'<64)(hc':0≤c'∧c'<64)(hd':0≤d'∧d'<64)(h:ja 4096 s):(a=a'∧b=b')∨(c=0∧d=0∧c'=63∧d'=63):=by
 obtain⟨x1,x2,x3,x4,x5,x6,x7,x8⟩:=gj hlo hb hc hd
 obtain⟨y1,y2,y3,y4,y5,y6,y7,y8⟩:=gj hhi hb' hc' hd'
 unfold ja at h
 rw[x2,y2,x7,y7]at h
 omega
theorem Jo {s:aj}{a b c d a' b' c' d':Int}(hlo:s.lo=a*262144+b*4096+c*64+d)(hb:0≤b∧b<64)(hc:0≤c∧c<64)(hd:0≤d∧d<64)(hhi:s.hi=a'*262144+b'*4096+c'*64+d')(hb':0≤b'∧b'<64)(hc':0≤c'∧c'<64)(hd':0≤d'∧d'<64)(h:ja 262144 s):a=a'∨(b=0∧c=0∧d=0∧b'=63∧c'=63∧d'=63):=by
 obtain⟨x1,x2,x3,x4,x5,x6,x7,x8⟩:=gj hlo hb hc hd
 obtain⟨y1,y2,y3,y4,y5,y6,y7,y8⟩:=gj hhi hb' hc' hd'
 unfold ja at h
 rw[x1,y1,x8,y8]at h
 omega
theorem qH {s:aj}(h:FJ s)(l:List Int):ii (d5 s) l↔∃ x,s.lo≤x∧x≤s.hi∧bt x=l:=by
 have h0:=h.lo
 have hle:=h.le
 have hhi:=h.hi
 have hsz:=tO h.toOneSize
 obtain⟨a,b,c,d,elo,ha,hb,hc,hd⟩:=dig h0
 obtain⟨a',b',c',d',ehi,ha',hb',hc',hd'⟩:=dig (show 0≤s.hi by omega)
 obtain⟨x1,x2,x3,x4,x5,x6,x7,x8⟩:=gj elo hb hc hd
 obtain⟨y1,y2,y3,y4,y5,y6,y7,y8⟩:=gj ehi hb' hc' hd'
 have k1:=fun q=>Jq elo hb hc hd ehi hb' hc' hd' (h.a1 q)
 have k2:=fun q=>Jp elo hb hc hd ehi hb' hc' hd' (h.a2 q)
 have k3:=fun q=>Jo elo hb hc hd ehi hb' hc' hd' (h.a3 q)
 rcases hsz with q|⟨q1,q2⟩|⟨q1,q2⟩|q
 ·rw[d5,sD Ll,sD Ll]
  show ii [(s.lo,s.hi)] l↔_
  rw[qg]
  constructor
  ·rintro⟨c,rfl,h1,h2⟩
   simp only at h1 h2
   exact⟨c,h1,h2,sD Ll⟩
  ·rintro⟨x,h1,h2,rfl⟩
   exact⟨x,sD Ll,h1,h2⟩
 ·have hs:bF s.lo=2:=by unfold bF;rw[if_neg Ll,if_pos Ll]
  have k1:=k1 Ll
  have z1:a=0∧b=0∧a'=0∧b'=0:=by clear k1 k2 k3 x1 x2 x3 x4 x5 x6 x7 x8 y1 y2 y3 y4 y5 y6 y7 y8;omega
  obtain⟨rfl,rfl,rfl,rfl⟩:=z1
  have key:=fun z w:Int=>uJ (a:=0) (b:=0) (a':=0) (b':=0) (x:=0) (y:=0) (z:=z) (w:=w) hb hc hd hb' hc' hd' k1 (.inl ⟨rfl,rfl⟩) (.inl rfl)
  rw[d5,sC Ll Ll,sC Ll Ll,x3,x6,y3,y6]
  clear k1 k2 k3 x1 x2 x3 x4 x5 x6 x7 x8 y1 y2 y3 y4 y5 y6 y7 y8
  show ii [(_,_),(_,_)] l↔_
  rw[gq]
  constructor
  ·rintro⟨u,l',rfl,h1,h2⟩
   obtain⟨v,rfl,h2⟩:=qg.1 h2
   simp only at h1 h2
   have g:=(key (u-192) (v-128)).1 Ll
   clear key
   have e:(u-192)*64+(v-128)=0*262144+0*4096+(u-192)*64+(v-128):=by omega
   obtain⟨g1,g2,g3,g4,g5,g6,g7,g8⟩:=gj e Ll g.2.1 g.2.2.1
   refine⟨(u-192)*64+(v-128),by omega,by omega,?_⟩
   rw[sC Ll Ll,g3,g6]
   congr 1
   ·omega
   ·congr 1;omega
  ·rintro⟨x,h1,h2,rfl⟩
   obtain⟨p,q,r,t,ex,hp,hq,hr,ht⟩:=dig (show 0≤x by omega)
   have z2:p=0∧q=0:=by clear key;omega
   obtain⟨rfl,rfl⟩:=z2
   obtain⟨g1,g2,g3,g4,g5,g6,g7,g8⟩:=gj ex hq hr ht
   have g:=(key r t).2 Ll
   rw[sC Ll Ll,g3,g6]
   clear key g1 g2 g3 g4 g5 g6 g7 g8
   refine⟨_,_,rfl,?_,qg.2 ⟨_,rfl,?_⟩⟩
   ·simp only;omega
   ·simp only;omega
 ·have hs:bF s.lo=3:=by unfold bF;rw[if_neg Ll,if_neg Ll,if_pos Ll]
  have k1:=k1 Ll
  have k2:=k2 Ll
  have z1:a=0∧a'=0:=by clear k1 k2 k3 x1 x2 x3 x4 x5 x6 x7 x8 y1 y2 y3 y4 y5 y6 y7 y8;omega
  obtain⟨rfl,rfl⟩:=z1
  have key:=fun y z w:Int=>uJ (a:=0) (a':=0) (x:=0) (y:=y) (z:=z) (w:=w) hb hc hd hb' hc' hd' k1 k2 (.inl rfl)
  rw[d5,ra Ll Ll,ra Ll Ll,x2,x5,x6,y2,y5,y6]
  clear k1 k2 k3 x1 x2 x3 x4 x5 x6 x7 x8 y1 y2 y3 y4 y5 y6 y7 y8
  show ii [(_,_),(_,_),(_,_)] l↔_
  rw[gq]
  constructor
  ·rintro⟨u,l',rfl,h1,h2⟩
   obtain⟨v,l',rfl,h2,h3⟩:=gq.1 h2
   obtain⟨w,rfl,h3⟩:=qg.1 h3
   simp only at h1 h2 h3
   have g:=(key (u-224) (v-128) (w-128)).1 Ll
   clear key
   have e:(u-224)*4096+(v-128)*64+(w-128)=0*262144+(u-224)*4096+(v-128)*64+(w-128):=by omega
   obtain⟨g1,g2,g3,g4,g5,g6,g7,g8⟩:=gj e g.1 g.2.1 g.2.2.1
   refine⟨(u-224)*4096+(v-128)*64+(w-128),by omega,by omega,?_⟩
   rw[ra Ll Ll,g2,g5,g6]
   clear g1 g2 g3 g4 g5 g6 g7 g8
   congr 1
   ·omega
   ·congr 1
    ·omega
    ·congr 1;omega
  ·rintro⟨x,h1,h2,rfl⟩
   obtain⟨p,q,r,t,ex,hp,hq,hr,ht⟩:=dig (show 0≤x by omega)
   have z2:p=0:=by clear key;omega
   obtain rfl:=z2
   obtain⟨g1,g2,g3,g4,g5,g6,g7,g8⟩:=gj ex hq hr ht
   have g:=(key q r t).2 Ll
   rw[ra Ll Ll,g2,g5,g6]
   clear key g1 g2 g3 g4 g5 g6 g7 g8
   refine⟨_,_,rfl,?_,gq.2 ⟨_,_,rfl,?_,qg.2 ⟨_,rfl,?_⟩⟩⟩
   ·simp only;omega
   ·simp only;omega
   ·simp only;omega
 ·have hs:bF s.lo=4:=by unfold bF;rw[if_neg Ll,if_neg Ll,if_neg Ll]
  have k1:=k1 Ll
  have k2:=k2 Ll
  have k3:=k3 Ll
  have key:=fun x y z w:Int=>uJ (x:=x) (y:=y) (z:=z) (w:=w) hb hc hd hb' hc' hd' k1 k2 k3
  rw[d5,sB Ll,sB Ll,x1,x4,x5,x6,y1,y4,y5,y6]
  clear k1 k2 k3 x1 x2 x3 x4 x5 x6 x7 x8 y1 y2 y3 y4 y5 y6 y7 y8
  show ii [(_,_),(_,_),(_,_),(_,_)] l↔_
  rw[gq]
  constructor
  ·rintro⟨u,l',rfl,h1,h2⟩
   obtain⟨v,l',rfl,h2,h3⟩:=gq.1 h2
   obtain⟨w,l',rfl,h3,h4⟩:=gq.1 h3
   obtain⟨o,rfl,h4⟩:=qg.1 h4
   simp only at h1 h2 h3 h4
   have g:=(key (u-240) (v-128) (w-128) (o-128)).1 Ll
   clear key
   obtain⟨g1,g2,g3,g4,g5,g6,g7,g8⟩:=gj (x:=(u-240)*262144+(v-128)*4096+(w-128)*64+(o-128)) rfl g.1 g.2.1 g.2.2.1
   refine⟨(u-240)*262144+(v-128)*4096+(w-128)*64+(o-128),by omega,by omega,?_⟩
   rw[sB Ll,g1,g4,g5,g6]
   clear g1 g2 g3 g4 g5 g6 g7 g8
   congr 1
   ·omega
   ·congr 1
    ·omega
    ·congr 1
     ·omega
     ·congr 1;omega
  ·rintro⟨x,h1,h2,rfl⟩
   obtain⟨p,q,r,t,ex,hp,hq,hr,ht⟩:=dig (show 0≤x by omega)
   obtain⟨g1,g2,g3,g4,g5,g6,g7,g8⟩:=gj ex hq hr ht
   have g:=(key p q r t).2 Ll
   rw[sB Ll,g1,g4,g5,g6]
   clear key g1 g2 g3 g4 g5 g6 g7 g8
   refine⟨_,_,rfl,?_,gq.2 ⟨_,_,rfl,?_,gq.2 ⟨_,_,rfl,?_,qg.2 ⟨_,rfl,?_⟩⟩⟩⟩
   ·simp only;omega
   ·simp only;omega
   ·simp only;omega
   ·simp only;omega
end
section
open Go
def fL:List Int→aj→Int
 | [],_=>0
 | m::ms,s=>if s.lo / m=s.hi / m then fL ms s else if s.lo%m≠0 then(s.lo / m+1)*m else if s.hi%m≠m-1 then s.hi / m*m else fL ms s
def jd:Nat→List Int
 | 2=>[64]
 | 3=>[64,4096]
 | 4=>[64,4096,262144]
 | _=>[]
def eX (s:aj):Int:=fL (jd (bF s.lo)) s
theorem wF {ms:List Int}(hm:∀ m∈ms,m=64∨m=4096∨m=262144){s:aj}(h0:0≤s.lo)(hle:s.lo≤s.hi):(fL ms s=0∧∀ m∈ms,ja m s)∨(s.lo<fL ms s∧fL ms s≤s.hi):=by
 induction ms with
 | nil=>exact .inl ⟨rfl,by simp⟩
 | cons m ms ih =>
  have ih:=ih fun m hm2=>hm m (by simp[hm2])
  have hm:=hm m Lm
  unfold fL
  split
  ·rename_i h1
   rcases ih with⟨i1,i2⟩|i1
   ·refine .inl ⟨i1,fun q hq=>?_⟩
    rcases List.mem_cons.1 hq with rfl|hq
    ·exact .inl h1
    ·exact i2 q hq
   ·exact .inr i1
  ·rename_i h1
   split
   ·rename_i h2
    right
    rcases hm with rfl|rfl|rfl<;>omega
   ·rename_i h2
    split
    ·rename_i h3
     right
     rcases hm with rfl|rfl|rfl<;>omega
    ·rename_i h3
     rcases ih with⟨i1,i2⟩|i1
     ·refine .inl ⟨i1,fun q hq=>?_⟩
      rcases List.mem_cons.1 hq with rfl|hq
      ·exact .inr ⟨by omega,by omega⟩
      ·exact i2 q hq
     ·exact .inr i1
theorem o7 {n:Nat}:∀ m∈jd n,m=64∨m=4096∨m=262144:=by
 intro m hm
 unfold jd at hm
 split at hm<;>simp at hm<;>omega
theorem o9 {s:aj}(h0:0≤s.lo)(hle:s.lo≤s.hi):eX s=0∨(s.lo<eX s∧eX s≤s.hi):=by
 rcases wF (ms:=jd (bF s.lo)) o7 h0 hle with h|h
 ·exact .inl h.1
 ·exact .inr h
theorem IW {s:aj}(h:OneSize s)(hp:eX s=0):FJ s:=by
 rcases wF (ms:=jd (bF s.lo)) o7 h.lo h.le with h1|h1
 ·have h2:=h1.2
  have hr:=dn s.lo
  refine⟨h,fun q=>?_,fun q=>?_,fun q=>?_⟩
  ·have:bF s.lo=2∨bF s.lo=3∨bF s.lo=4:=by omega
   rcases this with e|e|e<;>rw[e]at h2<;>exact h2 _ (by simp[jd])
  ·have:bF s.lo=3∨bF s.lo=4:=by omega
   rcases this with e|e<;>rw[e]at h2<;>exact h2 _ (by simp[jd])
  ·have e:bF s.lo=4:=by omega
   rw[e]at h2
   exact h2 _ (by simp[jd])
 ·have:s.lo<eX s:=h1.1
  have:=h.lo
  omega
def iG (s:aj):List aj:=if h:s.lo<eX s∧eX s≤s.hi then iG ⟨s.lo,eX s-1⟩++iG ⟨eX s,s.hi⟩ else [s]
termination_by (s.hi-s.lo).toNat
decreasing_by
 all_goals omega
theorem lV {x y:Int}(h:x≤y):bF x≤bF y:=by
 unfold bF
 repeat' split
 all_goals omega
theorem qR {s:aj}(h:OneSize s){x:Int}(h1:s.lo<x)(h2:x≤s.hi):OneSize ⟨s.lo,x-1⟩∧OneSize ⟨x,s.hi⟩:=by
 have a1:=lV (x:=s.lo) (y:=x-1) Ll
 have a2:=lV (x:=x-1) (y:=x) Ll
 have a3:=lV (x:=x) (y:=s.hi) h2
 have a4:=h.size
 have b1:=h.lo
 have b2:=h.hi
 exact⟨⟨b1,by show s.lo≤x-1;omega,by show x-1≤_;omega,by show bF s.lo=bF (x-1);omega⟩,⟨by show 0≤x;omega,h2,b2,by show bF x=bF s.hi;omega⟩⟩
theorem lI (s:aj)(h:OneSize s):(∀ q∈iG s,FJ q)∧(∀ x,inS (iG s) x↔s.lo≤x∧x≤s.hi)∧(iG s).Pairwise fun a b=>a.hi<b.lo:=by
 unfold iG
 split
 ·rename_i hx
  obtain⟨h1,h2⟩:=qR h hx.1 hx.2
  obtain⟨a1,a2,a3⟩:=lI _ h1
  obtain⟨b1,b2,b3⟩:=lI _ h2
  refine⟨fun q hq=>?_,fun x=>?_,?_⟩
  ·rcases List.mem_append.1 hq with hq|hq
   ·exact a1 q hq
   ·exact b1 q hq
  ·have e:inS (iG ⟨s.lo,eX s-1⟩++iG ⟨eX s,s.hi⟩) x↔inS (iG ⟨s.lo,eX s-1⟩) x∨inS (iG ⟨eX s,s.hi⟩) x:=by
    unfold inS
    simp only[List.mem_append]
    constructor
    ·rintro⟨q,hq|hq,h⟩
     ·exact .inl ⟨q,hq,h⟩
     ·exact .inr ⟨q,hq,h⟩
    ·rintro(⟨q,hq,h⟩|⟨q,hq,h⟩)
     ·exact⟨q,.inl hq,h⟩
     ·exact⟨q,.inr hq,h⟩
   rw[e,a2,b2]
   simp only
   omega
  ·rw[List.pairwise_append]
   refine⟨a3,b3,fun p hp q hq=>?_⟩
   have g1:=(a1 p hp).le
   have g2:=(b1 q hq).le
   have c1:=(a2 p.hi).1 ⟨p,hp,g1,Int.le_refl _⟩
   have c2:=(b2 q.lo).1 ⟨q,hq,Int.le_refl _,g2⟩
   simp only at c1 c2
   omega
 ·rename_i hx
  have hp:eX s=0:=(o9 h.lo h.le).resolve_right hx
  refine⟨fun q hq=>?_,fun x=>?_,by simp⟩
  ·simp only[List.mem_singleton]at hq
   subst hq
   exact IW h hp
  ·unfold inS
   simp
termination_by (s.hi-s.lo).toNat
decreasing_by
 all_goals omega
def jz:List (Int×Int):=[(0,127),(128,2047),(2048,65535),(65536,1114111)]
def dm (s:aj):List aj:=jz.filterMap fun p=>if max s.lo p.1≤min s.hi p.2 then some ⟨max s.lo p.1,min s.hi p.2⟩ else none
theorem lU {s q:aj}:q∈dm s↔∃ p∈jz,max s.lo p.1≤min s.hi p.2∧q=⟨max s.lo p.1,min s.hi p.2⟩:=by
 unfold dm
 rw[List.mem_filterMap]
 constructor
 ·rintro⟨p,hp,h⟩
  split at h
  ·exact⟨p,hp,by assumption,(Option.some.inj h).symm⟩
  ·cases h
 ·rintro⟨p,hp,h1,rfl⟩
  exact⟨p,hp,if_pos h1⟩
theorem lT {s q:aj}(h:q∈dm s):OneSize q:=by
 obtain⟨p,hp,h1,rfl⟩:=lU.1 h
 simp only[jz,List.mem_cons,List.not_mem_nil,or_false]at hp
 rcases hp with rfl|rfl|rfl|rfl<;>simp only at h1 ⊢
 ·exact⟨by simp only;omega,h1,by simp only;omega,by simp only[bF];rw[if_pos Ll,if_pos Ll]⟩
 ·exact⟨by simp only;omega,h1,by simp only;omega,by simp only[bF];rw[if_neg Ll,if_pos Ll,if_neg Ll,if_pos Ll]⟩
 ·exact⟨by simp only;omega,h1,by simp only;omega,by simp only[bF];rw[if_neg Ll,if_neg Ll,if_pos Ll,if_neg Ll,if_neg Ll,if_pos Ll]⟩
 ·exact⟨by simp only;omega,h1,by simp only;omega,by simp only[bF];rw[if_neg Ll,if_neg Ll,if_neg Ll,if_neg Ll,if_neg Ll,if_neg Ll]⟩
theorem wu {s:aj}(h0:0≤s.lo)(h1:s.hi≤1114111)(x:Int):inS (dm s) x↔s.lo≤x∧x≤s.hi:=by
 constructor
 ·rintro⟨q,hq,hx⟩
  obtain⟨p,hp,h2,rfl⟩:=lU.1 hq
  simp only at hx
  omega
 ·intro hx
  have:∃ p∈jz,p.1≤x∧x≤p.2:=by
   by_cases c1:x<128
   ·exact⟨(0,127),by simp[jz],by simp only;omega,by simp only;omega⟩
   ·by_cases c2:x<2048
    ·exact⟨(128,2047),by simp[jz],by simp only;omega,by simp only;omega⟩
    ·by_cases c3:x<65536
     ·exact⟨(2048,65535),by simp[jz],by simp only;omega,by simp only;omega⟩
     ·exact⟨(65536,1114111),by simp[jz],by simp only;omega,by simp only;omega⟩
  obtain⟨p,hp,h2,h3⟩:=this
  exact⟨_,lU.2 ⟨p,hp,by omega,rfl⟩,by simp only;omega,by simp only;omega⟩
theorem vv (s:aj):(dm s).Pairwise fun a b=>a.hi<b.lo:=by
 unfold dm
 refine List.Pairwise.filterMap _ (R:=fun a b:Int×Int=>a.2<b.1) (fun a b hab x hx y hy=>?_) (by simp[jz])
 split at hx
 ·split at hy
  ·have hx:=Option.some.inj (Option.mem_def.1 hx)
   have hy:=Option.some.inj (Option.mem_def.1 hy)
   subst hx hy
   simp only
   omega
  ·cases hy
 ·cases hx
def eZ (l:List aj):List aj:=((bd l).flatMap dm).flatMap iG
def dp (l:List aj):List (List (Int×Int)):=(eZ l).map d5
theorem oq {l:List aj}{s:aj}(h:s∈bd l):0≤s.lo∧s.hi≤1114111∧s.lo≤s.hi:=by
 have hc:=(jq l).1
 have hle:=hc.2 s h
 have h1:=(gV (l:=l) (x:=s.lo)).1 ⟨s,h,Int.le_refl _,hle⟩
 have h2:=(gV (l:=l) (x:=s.hi)).1 ⟨s,h,hle,Int.le_refl _⟩
 have h1:=h1.1
 have h2:=h2.1
 simp only[cv,Bool.and_eq_true,Bool.or_eq_true,decide_eq_true_eq]at h1 h2
 omega
theorem rR {f:aj→List aj}:∀ {L:List aj},L.Pairwise (fun a b=>a.hi<b.lo)→(∀ s∈L,∀ q∈f s,s.lo≤q.lo∧q.hi≤s.hi)→(∀ s∈L,(f s).Pairwise fun a b=>a.hi<b.lo)→(L.flatMap f).Pairwise fun a b=>a.hi<b.lo
 | [],_,_,_=>by simp
 | s::L,h1,h2,h3=>by
  rw[List.flatMap_cons,List.pairwise_append]
  obtain⟨g1,g2⟩:=List.pairwise_cons.1 h1
  refine⟨h3 s Lm,rR g2 (fun t ht=>h2 t (by simp[ht])) (fun t ht=>h3 t (by simp[ht])),fun a ha b hb=>?_⟩
  obtain⟨t,ht,hb⟩:=List.mem_flatMap.1 hb
  have c1:=h2 s Lm a ha
  have c2:=h2 t (by simp[ht]) b hb
  have c3:=g1 t ht
  omega
theorem iK (l:List aj):(∀ q∈eZ l,FJ q)∧(∀ x,inS (eZ l) x↔inS (bd l) x)∧(eZ l).Pairwise fun a b=>a.hi<b.lo:=by
 have hone:∀ q∈(bd l).flatMap dm,OneSize q:=fun q hq=>by
  obtain⟨s,_,hq⟩:=List.mem_flatMap.1 hq
  exact lT hq
 have hin:∀ {L:List aj} {f:aj→List aj},(∀ s∈L,∀ x,inS (f s) x↔s.lo≤x∧x≤s.hi)→∀ x,inS (L.flatMap f) x↔inS L x:=by
  intro L f hf x
  constructor
  ·rintro⟨q,hq,hx⟩
   obtain⟨s,hs,hq⟩:=List.mem_flatMap.1 hq
   exact⟨s,hs,(hf s hs x).1 ⟨q,hq,hx⟩⟩
  ·rintro⟨s,hs,hx⟩
   obtain⟨q,hq,hx⟩:=(hf s hs x).2 hx
   exact⟨q,List.mem_flatMap.2 ⟨s,hs,hq⟩,hx⟩
 have hc:=(jq l).1
 have hnp:(bd l).Pairwise fun a b=>a.hi<b.lo:=hc.1.imp fun {a b} h=>by omega
 refine⟨fun q hq=>?_,fun x=>?_,?_⟩
 ·obtain⟨s,hs,hq⟩:=List.mem_flatMap.1 hq
  exact(lI s (hone s hs)).1 q hq
 ·unfold eZ
  rw[hin (fun s hs=>(lI s (hone s hs)).2.1),hin (fun s hs=>wu (oq hs).1 (oq hs).2.1)]
 ·unfold eZ
  refine rR (rR hnp (fun s hs q hq=>?_) (fun s hs=>vv s)) (fun s hs q hq=>?_) (fun s hs=>(lI s (hone s hs)).2.2)
  ·obtain⟨p,hp,h1,rfl⟩:=lU.1 hq
   exact⟨by simp only;omega,by simp only;omega⟩
  ·obtain⟨k1,k2,k3⟩:=lI s (hone s hs)
   have g:=(k1 q hq).le
   exact⟨((k2 q.lo).1 ⟨q,hq,Int.le_refl _,g⟩).1,((k2 q.hi).1 ⟨q,hq,g,Int.le_refl _⟩).2⟩
def Ld:List Int→Int
 | [a]=>a
 | [a,b]=>(a-192)*64+(b-128)
 | [a,b,c]=>(a-224)*4096+(b-128)*64+(c-128)
 | [a,b,c,d]=>(a-240)*262144+(b-128)*4096+(c-128)*64+(d-128)
 | _=>0
theorem tf {x:Int}(h:0≤x):Ld (bt x)=x:=by
 obtain⟨a,b,c,d,e,ha,hb,hc,hd⟩:=dig h
 obtain⟨g1,g2,g3,g4,g5,g6,g7,g8⟩:=gj e hb hc hd
 unfold bt
 split
 ·rfl
 ·split
  ·rw[g3,g6];show(_-_)*_+_=_;omega
  ·split
   ·rw[g2,g5,g6];show(_-_)*_+_+_=_;omega
   ·rw[g1,g4,g5,g6];show(_-_)*_+_+_+_=_;omega
def Jh (c:Int):Nat:=if c<192 then 1 else if c<224 then 2 else if c<240 then 3 else 4
theorem q9 {x:Int}(h:0≤x):∃ c t,bt x=c::t∧Jh c=bF x∧(c<128∨(194≤c∧(x≤1114111→c≤244))):=by
 unfold bt bF Jh
 split
 ·exact⟨_,_,rfl,by rw[if_pos Ll],.inl Ll⟩
 ·split
  ·exact⟨_,_,rfl,by rw[if_neg Ll,if_pos Ll],.inr ⟨by omega,fun _=>by omega⟩⟩
  ·split
   ·exact⟨_,_,rfl,by rw[if_neg Ll,if_neg Ll,if_pos Ll],.inr ⟨by omega,fun _=>by omega⟩⟩
   ·exact⟨_,_,rfl,by rw[if_neg Ll,if_neg Ll,if_neg Ll],.inr ⟨by omega,fun _=>by omega⟩⟩
theorem Ac {x y:Int}(hx:0≤x)(hy:0≤y){t:List Int}(h:bt x++t=bt y):x=y∧t=[]:=by
 obtain⟨c,u,e1,s1,_⟩:=q9 hx
 obtain⟨d,w,e2,s2,_⟩:=q9 hy
 have h1:=h
 rw[e1,e2]at h1
 injection h1 with h1 h2
 subst h1
 have hl:(bt x++t).length=(bt y).length:=by rw[h]
 rw[List.length_append,dq,dq]at hl
 have ht:t=[]:=List.eq_nil_of_length_eq_zero Ll
 subst ht
 rw[List.append_nil]at h
 exact⟨by rw[← tf hx,← tf hy,h],rfl⟩
theorem qG {l:List aj}(b:List Int):(∃ r∈dp l,ii r b)↔∃ x,inS (bd l) x∧bt x=b:=by
 obtain⟨h1,h2,h3⟩:=iK l
 unfold dp
 constructor
 ·rintro⟨r,hr,hb⟩
  obtain⟨s,hs,rfl⟩:=List.mem_map.1 hr
  obtain⟨x,g1,g2,g3⟩:=(qH (h1 s hs) b).1 hb
  exact⟨x,(h2 x).1 ⟨s,hs,g1,g2⟩,g3⟩
 ·rintro⟨x,hx,rfl⟩
  obtain⟨s,hs,g1,g2⟩:=(h2 x).2 hx
  exact⟨_,List.mem_map.2 ⟨s,hs,rfl⟩,(qH (h1 s hs) _).2 ⟨x,g1,g2,rfl⟩⟩
end
section
open Go
abbrev jx:=List (Int×Int)
abbrev Way:=jx×Int
def dS (l:List Way)(c:Int):List Way:=l.filterMap fun w=>match w.1 with
 | []=>none
 | p::r=>if p.1≤c∧c≤p.2 then some (r,w.2) else none
inductive Stp where
 | none
 | own (i:Int)
 | amid (l:List Way)
def jb (l:List Way)(c:Int):Stp:=match (dS l c).find? fun w=>w.1.isEmpty with
 | some w => .own w.2
 | none=>if dS l c=[] then .none else .amid (dS l c)
def yF (l:List Way)(b:List Int)(t:Int):Prop:=∃ w∈l,ii w.1 b∧w.2=t
structure xi (l:List Way):Prop where
 ne:∀ w∈l,w.1≠[]∧∀ p∈w.1,p.1≤p.2
 free:∀ w∈l,∀ v∈l,∀ b t,ii w.1 b→ii v.1 (b++t)→t=[]∧w.2=v.2
theorem eP {l:List Way}{c:Int}{v:Way}:v∈dS l c↔∃ p,(p::v.1,v.2)∈l∧p.1≤c∧c≤p.2:=by
 unfold dS
 rw[List.mem_filterMap]
 constructor
 ·rintro⟨⟨r,t⟩,hw,h⟩
  cases r with
  | nil=>cases h
  | cons p r =>
   simp only at h
   split at h
   ·rename_i hc
    have:=Option.some.inj h
    subst this
    exact⟨p,hw,hc⟩
   ·cases h
 ·rintro⟨p,hp,hc⟩
  exact⟨_,hp,by simp only;rw[if_pos hc]⟩
theorem rm {l:List Way}{c:Int}{b:List Int}{t:Int}:yF l (c::b) t↔yF (dS l c) b t:=by
 constructor
 ·rintro⟨⟨r,q⟩,hw,h1,rfl⟩
  cases r with
  | nil=>exact absurd h1 (by simp[ii])
  | cons p r=>exact⟨(r,q),eP.2 ⟨p,hw,h1.1⟩,h1.2,rfl⟩
 ·rintro⟨v,hv,h1,rfl⟩
  obtain⟨p,hp,hc⟩:=eP.1 hv
  exact⟨_,hp,⟨hc,h1⟩,rfl⟩
theorem uy {r:jx}(h:∀ p∈r,p.1≤p.2):∃ b,ii r b:=by
 induction r with
 | nil=>exact⟨[],trivial⟩
 | cons p r ih =>
  obtain⟨b,hb⟩:=ih fun q hq=>h q (by simp[hq])
  exact⟨p.1::b,⟨Int.le_refl _,h p Lm⟩,hb⟩
theorem Fq {r:jx}(h:ii r []):r=[]:=by
 cases r with
 | nil=>rfl
 | cons p r=>exact absurd h (by simp[ii])
theorem rn {l:List Way}(h:xi l)(t:Int):¬ yF l [] t:=by
 rintro⟨w,hw,h1,_⟩
 exact(h.ne w hw).1 (Fq h1)
theorem AO {l:List Way}{c:Int}(h:jb l c = .none):dS l c=[]:=by
 unfold jb at h
 split at h
 ·cases h
 ·split at h
  ·assumption
  ·cases h
theorem De {l:List Way}(hg:xi l){c i:Int}(h:jb l c = .own i)(b:List Int)(t:Int):yF l (c::b) t↔b=[]∧t=i:=by
 unfold jb at h
 split at h
 ·rename_i w hw
  injection h with h
  have hm:=List.mem_of_find?_eq_some hw
  have he:w.1=[]:=by simpa using List.find?_some hw
  obtain⟨p,hp,hc⟩:=eP.1 hm
  rw[he]at hp
  rw[rm]
  constructor
  ·rintro⟨v,hv,h1,rfl⟩
   obtain⟨q,hq,hqc⟩:=eP.1 hv
   obtain⟨g1,g2⟩:=hg.free _ hp _ hq [c] b ⟨hc,trivial⟩ ⟨hqc,h1⟩
   exact⟨g1,g2.symm.trans h⟩
  ·rintro⟨rfl,rfl⟩
   exact⟨w,hm,by rw[he];trivial,h⟩
 ·split at h<;>cases h
theorem AP {l l':List Way}(hg:xi l){c:Int}(h:jb l c = .amid l'):l'=dS l c∧l'≠[]∧xi l':=by
 unfold jb at h
 split at h
 ·cases h
 ·rename_i hf
  split at h
  ·cases h
  ·rename_i hne
   injection h with h
   subst h
   refine⟨rfl,hne,⟨fun v hv=>⟨?_,?_⟩,fun w hw v hv b t h1 h2=>?_⟩⟩
   ·intro e
    have:=List.find?_eq_none.1 hf v hv
    simp[e]at this
   ·obtain⟨p,hp,_⟩:=eP.1 hv
    exact fun q hq=>(hg.ne _ hp).2 q (by simp[hq])
   ·obtain⟨p,hp,hpc⟩:=eP.1 hw
    obtain⟨q,hq,hqc⟩:=eP.1 hv
    exact hg.free _ hp _ hq (c::b) t ⟨hpc,h1⟩ ⟨hqc,h2⟩
def cL (parts:List (List aj))(next:List Int):List Way:=(parts.zip next).flatMap fun p=>if p.2 = -1 then [] else(dp p.1).map fun r=>(r,p.2)
theorem fI {parts:List (List aj)}{next:List Int}{w:Way}:w∈cL parts next↔∃ (k:Nat) (p:List aj),parts[k]?=some p∧next[k]?=some w.2∧w.2 ≠ -1∧w.1∈dp p:=by
 unfold cL
 rw[List.mem_flatMap]
 constructor
 ·rintro⟨⟨p,t⟩,hp,h⟩
  simp only at h
  split at h
  ·cases h
  ·rename_i ht
   obtain⟨r,hr,rfl⟩:=List.mem_map.1 h
   obtain⟨k,hk⟩:=List.getElem?_of_mem hp
   obtain⟨a1,a2⟩:=List.getElem?_zip_eq_some.1 hk
   exact⟨k,p,a1,a2,ht,hr⟩
 ·rintro⟨k,p,h1,h2,h3,h4⟩
  refine⟨(p,w.2),List.mem_of_getElem? (List.getElem?_zip_eq_some.2 ⟨h1,h2⟩),?_⟩
  simp only
  rw[if_neg h3]
  exact List.mem_map.2 ⟨w.1,h4,rfl⟩
def B8 (parts:List (List aj)):Prop:=∀ (i j:Nat) (p q:List aj),parts[i]?=some p→parts[j]?=some q→∀ x,inS (bd p) x→inS (bd q) x→i=j
theorem kY {l:List aj}{x:Int}(h:inS (bd l) x):0≤x∧x≤1114111:=by
 have h1:=cx.1 (gV.1 h).1
 omega
theorem Cj {l:List aj}{r:jx}(h:r∈dp l):r≠[]∧∀ p∈r,p.1≤p.2:=by
 obtain⟨s,hs,rfl⟩:=List.mem_map.1 h
 have hf:=(iK l).1 s hs
 have h1:=(qH hf (bt s.lo)).2 ⟨s.lo,Int.le_refl _,hf.le,rfl⟩
 have key:∀ {r:jx} {b:List Int},ii r b→∀ p∈r,p.1≤p.2:=by
  intro r
  induction r with
  | nil=>intro b _ p hp;cases hp
  | cons q r ih =>
   intro b hb p hp
   obtain⟨c,b',rfl,h1,h2⟩:=gq.1 hb
   rcases List.mem_cons.1 hp with rfl|hp
   ·omega
   ·exact ih h2 p hp
 refine⟨fun e=>?_,key h1⟩
 have hl:(d5 s).length=0:=by rw[e];rfl
 unfold d5 at hl
 rw[List.length_zip,dq,dq]at hl
 have:=dn s.lo
 have:=dn s.hi
 omega
theorem AI {parts:List (List aj)}(ha:B8 parts)(next:List Int):xi (cL parts next):=by
 refine⟨fun w hw=>?_,fun w hw v hv b t h1 h2=>?_⟩
 ·obtain⟨k,p,_,_,_,h⟩:=fI.1 hw
  exact Cj h
 ·obtain⟨i,p,a1,a2,a3,a4⟩:=fI.1 hw
  obtain⟨j,q,b1,b2,b3,b4⟩:=fI.1 hv
  obtain⟨x,x1,x2⟩:=(qG b).1 ⟨_,a4,h1⟩
  obtain⟨y,y1,y2⟩:=(qG (b++t)).1 ⟨_,b4,h2⟩
  obtain⟨e1,e2⟩:=Ac (kY x1).1 (kY y1).1 (t:=t) (by rw[x2,y2])
  subst e1
  have e3:=ha i j p q a1 b1 x x1 y1
  subst e3
  rw[a2]at b2
  exact⟨e2,Option.some.inj b2⟩
theorem C6 {parts:List (List aj)}{next:List Int}{b:List Int}{t:Int}:yF (cL parts next) b t↔∃ (k:Nat) (p:List aj) (x:Int),parts[k]?=some p∧next[k]?=some t∧t ≠ -1∧inS (bd p) x∧bt x=b:=by
 constructor
 ·rintro⟨w,hw,h1,rfl⟩
  obtain⟨k,p,a1,a2,a3,a4⟩:=fI.1 hw
  obtain⟨x,x1,x2⟩:=(qG b).1 ⟨_,a4,h1⟩
  exact⟨k,p,x,a1,a2,a3,x1,x2⟩
 ·rintro⟨k,p,x,a1,a2,a3,x1,x2⟩
  obtain⟨r,r1,r2⟩:=(qG b).2 ⟨x,x1,x2⟩
  exact⟨(r,t),fI.2 ⟨k,p,a1,a2,a3,r1⟩,r2,rfl⟩
end
section
open Go
def cE {α:Type}[DecidableEq α](L:List α)(to:Option α):List α:=match to with
 | none=>L
 | some a=>if a∈L then L else L++[a]
def cR {α:Type}[DecidableEq α](L:List α)(tos:List (Option α)):List α:=tos.foldl cE L
def gR {α:Type}[DecidableEq α](L:List α)(to:Option α):Int:=match to with
 | none => -1
 | some a=>(L.idxOf a:Nat)
def fg {α:Type}[DecidableEq α](row:α→List (Option α))(s0:α):Nat→List α
 | 0=>[s0]
 | i+1=>match (fg row s0 i)[i]? with
  | none=>fg row s0 i
  | some a=>cR (fg row s0 i) (row a)
theorem pR {α:Type}[DecidableEq α](L:List α)(to:Option α):L <+: cE L to:=by
 cases to with
 | none=>exact List.prefix_refl _
 | some a =>
  show L <+: if a∈L then L else L++[a]
  split
  ·exact List.prefix_refl _
  ·exact List.prefix_append _ _
theorem mp {α:Type}[DecidableEq α](tos:List (Option α)):∀ L:List α,L <+: cR L tos:=by
 induction tos with
 | nil=>exact fun L=>List.prefix_refl _
 | cons a tos ih=>exact fun L=>(pR L a).trans (ih _)
theorem AK {α:Type}[DecidableEq α]{L:List α}{a:α}:a∈cE L (some a):=by
 show a∈if a∈L then L else L++[a]
 split
 ·assumption
 ·simp
theorem sb {α:Type}[DecidableEq α]{tos:List (Option α)}:∀ {L:List α} {a:α},some a∈tos→a∈cR L tos:=by
 induction tos with
 | nil=>intro L a h;cases h
 | cons b tos ih =>
  intro L a h
  rcases List.mem_cons.1 h with rfl|h
  ·exact(mp tos _).subset AK
  ·exact ih h
theorem xo {α:Type}[DecidableEq α](L:List α)(tos:List (Option α))(to:Option α):cR L (tos++[to])=cE (cR L tos) to:=by simp[cR]
theorem xp {α:Type}[DecidableEq α]{L:List α}(h:L.Nodup)(to:Option α):(cE L to).Nodup:=by
 cases to with
 | none=>exact h
 | some a =>
  show(if a∈L then L else L++[a]).Nodup
  split
  ·exact h
  ·rename_i h1
   rw[List.nodup_append]
   refine⟨h,by simp,fun x hx y hy e=>?_⟩
   simp only[List.mem_singleton]at hy
   subst hy e
   exact h1 hx
theorem pF {α:Type}[DecidableEq α]:∀ {tos:List (Option α)} {L:List α},L.Nodup→(cR L tos).Nodup
 | [],_,h=>h
 | to::tos,_,h=>pF (tos:=tos) (xp h to)
theorem n5 {α:Type}[DecidableEq α]:∀ {tos:List (Option α)} {L:List α} {a:α},a∈cR L tos→a∈L∨some a∈tos
 | [],_,_,h => .inl h
 | to::tos,L,a,h=>by
  rcases n5 (tos:=tos) (L:=cE L to) h with h|h
  ·cases to with
   | none=>exact .inl h
   | some b =>
    change a∈(if b∈L then L else L++[b]) at h
    split at h
    ·exact .inl h
    ·rcases List.mem_append.1 h with h|h
     ·exact .inl h
     ·simp only[List.mem_singleton]at h
      subst h
      exact .inr Lm
  ·exact .inr (by simp[h])
theorem HZ {α:Type}[DecidableEq α](row:α→List (Option α))(s0:α)(i:Nat):fg row s0 i <+: fg row s0 (i+1):=by
 rw[fg]
 split
 ·exact List.prefix_refl _
 ·exact mp _ _
theorem nr {α:Type}[DecidableEq α](row:α→List (Option α))(s0:α){i:Nat}:∀ {j:Nat},i≤j→fg row s0 i <+: fg row s0 j:=by
 intro j
 induction j with
 | zero =>
  intro h;have:i=0:=by omega
  subst this;exact List.prefix_refl _
 | succ j ih =>
  intro h
  by_cases e:i=j+1
  ·subst e;exact List.prefix_refl _
  ·exact(ih Ll).trans (HZ row s0 j)
theorem pw {α:Type}[DecidableEq α](row:α→List (Option α))(s0:α){i:Nat}(h:(fg row s0 i).length≤i):∀ {j:Nat},i≤j→fg row s0 j=fg row s0 i:=by
 intro j
 induction j with
 | zero =>
  intro hj;have:i=0:=by omega
  subst this;rfl
 | succ j ih =>
  intro hj
  by_cases e:i=j+1
  ·subst e;rfl
  ·have h1:=ih Ll
   rw[fg,h1,List.getElem?_eq_none Ll]
theorem ro {α:Type}[DecidableEq α](row:α→List (Option α))(s0:α)(i:Nat):1≤(fg row s0 i).length:=by
 have:=(nr row s0 (Nat.zero_le i)).length_le
 simpa[fg] using this
theorem qq {α:Type}[DecidableEq α](row:α→List (Option α))(s0:α):∀ i,(fg row s0 i).Nodup
 | 0=>by simp[fg]
 | i+1=>by
  rw[fg]
  split
  ·exact qq row s0 i
  ·exact pF (qq row s0 i)
theorem AC {α:Type}[DecidableEq α]{row:α→List (Option α)}{s0:α}{i j:Nat}{a:α}(ha:(fg row s0 i)[i]?=some a)(hij:i+1≤j){b:α}(h:some b∈row a):b∈fg row s0 j:=by
 have e:fg row s0 (i+1)=cR (fg row s0 i) (row a):=by rw[fg,ha]
 have h1:=sb (L:=fg row s0 i) h
 rw[← e]at h1
 exact(nr row s0 hij).subset h1
theorem rq {α:Type}[DecidableEq α]{row:α→List (Option α)}{s0:α}{P:α→Prop}(h0:P s0)(hs:∀ a b,P a→some b∈row a→P b):∀ i,∀ a∈fg row s0 i,P a
 | 0,a,h=>by
  simp only[fg,List.mem_singleton]at h
  subst h
  exact h0
 | i+1,a,h=>by
  have ih:=rq h0 hs i
  rw[fg]at h
  split at h
  ·exact ih a h
  ·rename_i b hb
   rcases n5 h with h|h
   ·exact ih a h
   ·exact hs b a (ih b (List.mem_of_getElem? hb)) h
theorem uf {α:Type}[DecidableEq α]{L M:List α}(h:L <+: M){to:Option α}(ht:∀ a,to=some a→a∈L):gR M to=gR L to:=by
 cases to with
 | none=>rfl
 | some a =>
  obtain⟨t,rfl⟩:=h
  show(((L++t).idxOf a:Nat):Int)=(L.idxOf a:Nat)
  rw[List.idxOf_append,if_pos (ht a rfl)]
theorem pb {α:Type}[DecidableEq α]{L:List α}{a:α}(h:a∈L):∃ q:Nat,gR L (some a)=q∧q<L.length∧L[q]?=some a:=by
 have h1:=List.idxOf_lt_length_iff.2 h
 exact⟨L.idxOf a,rfl,h1,by rw[List.getElem?_eq_getElem h1,List.getElem_idxOf]⟩
theorem oQ {α:Type}[DecidableEq α]{row:α→List (Option α)}{s0:α}{m:Nat}(hle:(fg row s0 m).length≤m){a:α}{s:Nat}(ha:(fg row s0 m)[s]?=some a){b:α}(h:some b∈row a):b∈fg row s0 m:=by
 have hlt:=lt_of_getElem? ha
 have h4:=nr row s0 (show s≤m by omega)
 have h5:(fg row s0 s)[s]?=some a:=by
  by_cases h5:s<(fg row s0 s).length
  ·obtain⟨t,e⟩:=h4
   rw[← e,List.getElem?_append_left h5]at ha
   exact ha
  ·have h6:=pw row s0 (i:=s) Ll (show s≤m by omega)
   rw[h6]at ha
   exact ha
 exact AC h5 Ll h
theorem B4 {α:Type}[DecidableEq α](row:α→List (Option α))(s0:α)(m:Nat):(fg row s0 m)[0]?=some s0:=by
 obtain⟨t,e⟩:=nr row s0 (Nat.zero_le m)
 rw[← e]
 rfl
def j9 {α:Type}[DecidableEq α](row:α→List (Option α))(A:List α):List (List Int):=A.map fun a=>(row a).map (gR A)
theorem wv {α:Type}[DecidableEq α]{row:α→List (Option α)}{s0:α}{m p:Nat}(hle:(fg row s0 m).length≤m)(hp:∀ a,(row a).length=p):∀ r∈j9 row (fg row s0 m),r.length=p∧∀ x∈r,x = -1∨In (fg row s0 m).length x:=by
 intro r hr
 obtain⟨a,ha,rfl⟩:=List.mem_map.1 hr
 refine⟨by rw[List.length_map,hp],fun x hx=>?_⟩
 obtain⟨to,hto,rfl⟩:=List.mem_map.1 hx
 cases to with
 | none=>exact .inl rfl
 | some b =>
  obtain⟨s,hs⟩:=List.getElem?_of_mem ha
  obtain⟨q,hq,hql,_⟩:=pb (oQ hle hs hto)
  rw[hq]
  right
  unfold In
  omega
end
end Go.Proofs.YtlnobeojgifojaaGreatDoor
