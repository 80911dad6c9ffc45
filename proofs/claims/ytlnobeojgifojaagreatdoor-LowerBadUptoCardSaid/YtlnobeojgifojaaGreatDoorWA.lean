/- Scalars as bytes, plainly: spans cut till they are rows of ranges. Spans cut till they are flat, plainly; a set's rows tell just its scalars' bytes. Ways amid a scalar, plainly: where a byte leads. Things in the order in which they are come to, plainly, whatever they are. -/
import Derived.Test.YtlnobeojgifojaaGreatDoorD1
import Derived.Test.YtlnobeojgifojaaGreatDoorP1
set_option linter.unusedVariables false
set_option linter.unusedSimpArgs false
namespace Go.Proofs.YtlnobeojgifojaaGreatDoor
section
open Go
def br (r:Int):List Int :=
 if r<128 then [r] else if r<2048 then [192+r / 64,128+r%64]
 else if r<65536 then [224+r / 4096,128+r / 64%64,128+r%64]
 else [240+r / 262144,128+r / 4096%64,128+r / 64%64,128+r%64]
def bB (r:Int):Nat:=if r<128 then 1 else if r<2048 then 2 else if r<65536 then 3 else 4
theorem dv (r:Int):(br r).length=bB r:=by
 unfold br bB
 split
 ·rfl
 ·split
  ·rfl
  ·split<;>rfl
theorem cO (r:Int):1≤bB r∧bB r≤4:=by
 unfold bB
 split
 ·omega
 ·split
  ·omega
  ·split<;>omega
def ic:List (Int×Int)→List Int→Prop
 | [],[]=>True
 | p::r,c::b=>(p.1≤c∧c≤p.2)∧ic r b
 | _,_=>False
def dY (s:ai):List (Int×Int):=(br s.lo).zip (br s.hi)
def iY (m:Int)(s:ai):Prop:=s.lo / m=s.hi / m∨(s.lo%m=0∧s.hi%m=m-1)
structure OneSize (s:ai):Prop where
 lo:0≤s.lo
 le:s.lo≤s.hi
 hi:s.hi≤1114111
 size:bB s.lo=bB s.hi
structure FA (s:ai):Prop extends OneSize s where
 a1:1<bB s.lo→iY 64 s
 a2:2<bB s.lo→iY 4096 s
 a3:3<bB s.lo→iY 262144 s
theorem tH {s:ai}(h:OneSize s):(s.hi<128)∨(128≤s.lo∧s.hi<2048)∨(2048≤s.lo∧s.hi<65536)∨(65536≤s.lo):=by
 have h1:=h.size
 have h2:=h.le
 unfold bB at h1
 repeat' split at h1
 all_goals omega
theorem p8 {p:Int×Int}{b:List Int}:ic [p] b↔∃ c,b=[c]∧p.1≤c∧c≤p.2:=by
 constructor
 ·intro h
  match b,h with
  | [c],h=>exact⟨c,rfl,h.1⟩
 ·rintro⟨c,rfl,h⟩
  exact⟨h,trivial⟩
theorem gu {p:Int×Int}{r:List (Int×Int)}{b:List Int}:ic (p::r) b↔∃ c b',b=c::b'∧(p.1≤c∧c≤p.2)∧ic r b':=by
 constructor
 ·intro h
  match b,h with
  | c::b',h=>exact⟨c,b',rfl,h⟩
 ·rintro⟨c,b',rfl,h⟩
  exact h
theorem dig {x:Int}(h:0≤x):∃ a b c d:Int,x=a*262144+b*4096+c*64+d∧0≤a∧(0≤b∧b<64)∧(0≤c∧c<64)∧(0≤d∧d<64) :=
 ⟨x / 262144,x / 4096%64,x / 64%64,x%64,by omega,by omega,by omega,by omega,by omega⟩
theorem gk {x a b c d:Int}(h:x=a*262144+b*4096+c*64+d)(hb:0≤b∧b<64)(hc:0≤c∧c<64)(hd:0≤d∧d<64) :
  x / 262144=a∧x / 4096=a*64+b∧x / 64=a*4096+b*64+c∧x / 4096%64=b∧x / 64%64=c∧x%64=d∧x%4096=c*64+d∧x%262144=b*4096+c*64+d:=by
 have e1:x / 262144=a:=by omega
 have e2:x / 4096=a*64+b:=by omega
 have e3:x / 64=a*4096+b*64+c:=by omega
 refine⟨e1,e2,e3,?_,?_,?_,?_,?_⟩
 ·rw[e2];omega
 ·rw[e3];omega
 ·omega
 ·omega
 ·omega
theorem uC {a b c d a' b' c' d' x y z w:Int}(hb:0≤b∧b<64)(hc:0≤c∧c<64)(hd:0≤d∧d<64)(hb':0≤b'∧b'<64)(hc':0≤c'∧c'<64)(hd':0≤d'∧d'<64)
  (e1:(a=a'∧b=b'∧c=c')∨(d=0∧d'=63)) (e2:(a=a'∧b=b')∨(c=0∧d=0∧c'=63∧d'=63)) (e3:a=a'∨(b=0∧c=0∧d=0∧b'=63∧c'=63∧d'=63)) :
  ((a≤x∧x≤a')∧(b≤y∧y≤b')∧(c≤z∧z≤c')∧(d≤w∧w≤d'))↔(0≤y∧y<64)∧(0≤z∧z<64)∧(0≤w∧w<64)∧a*262144+b*4096+c*64+d≤x*262144+y*4096+z*64+w∧x*262144+y*4096+z*64+w≤a'*262144+b'*4096+c'*64+d':=by
 rcases e3 with e3|⟨e3,e4,e5,e6,e7,e8⟩
 ·subst e3
  rcases e2 with⟨_,e2⟩|⟨e2,e4,e5,e6⟩
  ·subst e2
   rcases e1 with⟨_,_,e1⟩|⟨e1,e4⟩
   ·subst e1
    constructor
    ·rintro⟨h1,h2,h3,h4⟩
     obtain rfl:x=a:=by omega
     obtain rfl:y=b:=by omega
     obtain rfl:z=c:=by omega
     omega
    ·rintro⟨h1,h2,h3,h4,h5⟩
     obtain rfl:x=a:=by omega
     obtain rfl:y=b:=by omega
     obtain rfl:z=c:=by omega
     omega
   ·subst e1 e4
    constructor
    ·rintro⟨h1,h2,h3,h4⟩
     obtain rfl:x=a:=by omega
     obtain rfl:y=b:=by omega
     omega
    ·rintro⟨h1,h2,h3,h4,h5⟩
     obtain rfl:x=a:=by omega
     obtain rfl:y=b:=by omega
     omega
  ·subst e2 e4 e5 e6
   constructor
   ·rintro⟨h1,h2,h3,h4⟩
    obtain rfl:x=a:=by omega
    omega
   ·rintro⟨h1,h2,h3,h4,h5⟩
    obtain rfl:x=a:=by omega
    omega
 ·subst e3 e4 e5 e6 e7 e8
  constructor
  ·rintro⟨h1,h2,h3,h4⟩
   omega
  ·rintro⟨h1,h2,h3,h4,h5⟩
   omega
theorem ss {x:Int}(h:x<128):br x=[x]:=by unfold br;rw[if_pos h]
theorem sr {x:Int}(h1:128≤x)(h2:x<2048):br x=[192+x / 64,128+x%64]:=by unfold br;rw[if_neg (by omega),if_pos h2]
theorem qV {x:Int}(h1:2048≤x)(h2:x<65536):br x=[224+x / 4096,128+x / 64%64,128+x%64]:=by unfold br;rw[if_neg (by omega),if_neg (by omega),if_pos h2]
theorem sq {x:Int}(h1:65536≤x):br x=[240+x / 262144,128+x / 4096%64,128+x / 64%64,128+x%64]:=by unfold br;rw[if_neg (by omega),if_neg (by omega),if_neg (by omega)]
theorem Jc {s:ai}{a b c d a' b' c' d':Int}(hlo:s.lo=a*262144+b*4096+c*64+d)(hb:0≤b∧b<64)(hc:0≤c∧c<64)(hd:0≤d∧d<64)(hhi:s.hi=a'*262144+b'*4096+c'*64+d')(hb':0≤b'∧b'<64)(hc':0≤c'∧c'<64)(hd':0≤d'∧d'<64)(h:iY 64 s):(a=a'∧b=b'∧c=c')∨(d=0∧d'=63):=by
 obtain⟨x1,x2,x3,x4,x5,x6,x7,x8⟩:=gk hlo hb hc hd
 obtain⟨y1,y2,y3,y4,y5,y6,y7,y8⟩:=gk hhi hb' hc' hd'
 unfold iY at h
 rw[x3,y3,x6,y6]at h
 omega
theorem Jb {s:ai}{a b c d a' b' c' d':Int}(hlo:s.lo=a*262144+b*4096+c*64+d)(hb:0≤b∧b<64)(hc:0≤c∧c<64)(hd:0≤d∧d<64)(hhi:s.hi=a'*262144+b'*4096+c'*64+d')(hb':0≤b'∧b'<64)(hc':0≤c'∧c'<64)(hd':0≤d'∧d'<64)(h:iY 4096 s):(a=a'∧b=b')∨(c=0∧d=0∧c'=63∧d'=63):=by
 obtain⟨x1,x2,x3,x4,x5,x6,x7,x8⟩:=gk hlo hb hc hd
 obtain⟨y1,y2,y3,y4,y5,y6,y7,y8⟩:=gk hhi hb' hc' hd'
 unfold iY at h
 rw[x2,y2,x7,y7]at h
 omega
theorem Ja {s:ai}{a b c d a' b' c' d':Int}(hlo:s.lo=a*262144+b*4096+c*64+d)(hb:0≤b∧b<64)(hc:0≤c∧c<64)(hd:0≤d∧d<64)(hhi:s.hi=a'*262144+b'*4096+c'*64+d')(hb':0≤b'∧b'<64)(hc':0≤c'∧c'<64)(hd':0≤d'∧d'<64)(h:iY 262144 s):a=a'∨(b=0∧c=0∧d=0∧b'=63∧c'=63∧d'=63):=by
 obtain⟨x1,x2,x3,x4,x5,x6,x7,x8⟩:=gk hlo hb hc hd
 obtain⟨y1,y2,y3,y4,y5,y6,y7,y8⟩:=gk hhi hb' hc' hd'
 unfold iY at h
 rw[x1,y1,x8,y8]at h
 omega
theorem qA {s:ai}(h:FA s)(l:List Int):ic (dY s) l↔∃ x,s.lo≤x∧x≤s.hi∧br x=l:=by
 have h0:=h.lo
 have hle:=h.le
 have hhi:=h.hi
 have hsz:=tH h.toOneSize
 obtain⟨a,b,c,d,elo,ha,hb,hc,hd⟩:=dig h0
 obtain⟨a',b',c',d',ehi,ha',hb',hc',hd'⟩:=dig (show 0≤s.hi by omega)
 obtain⟨x1,x2,x3,x4,x5,x6,x7,x8⟩:=gk elo hb hc hd
 obtain⟨y1,y2,y3,y4,y5,y6,y7,y8⟩:=gk ehi hb' hc' hd'
 have k1:=fun q=>Jc elo hb hc hd ehi hb' hc' hd' (h.a1 q)
 have k2:=fun q=>Jb elo hb hc hd ehi hb' hc' hd' (h.a2 q)
 have k3:=fun q=>Ja elo hb hc hd ehi hb' hc' hd' (h.a3 q)
 rcases hsz with q|⟨q1,q2⟩|⟨q1,q2⟩|q
 ·rw[dY,ss (by omega),ss (by omega)]
  show ic [(s.lo,s.hi)] l↔_
  rw[p8]
  constructor
  ·rintro⟨c,rfl,h1,h2⟩
   simp only at h1 h2
   exact⟨c,h1,h2,ss (by omega)⟩
  ·rintro⟨x,h1,h2,rfl⟩
   exact⟨x,ss (by omega),h1,h2⟩
 ·have hs:bB s.lo=2:=by unfold bB;rw[if_neg (by omega),if_pos (by omega)]
  have k1:=k1 (by omega)
  have z1:a=0∧b=0∧a'=0∧b'=0:=by clear k1 k2 k3 x1 x2 x3 x4 x5 x6 x7 x8 y1 y2 y3 y4 y5 y6 y7 y8;omega
  obtain⟨rfl,rfl,rfl,rfl⟩:=z1
  have key:=fun z w:Int=>uC (a:=0) (b:=0) (a':=0) (b':=0) (x:=0) (y:=0) (z:=z) (w:=w) hb hc hd hb' hc' hd' k1 (.inl ⟨rfl,rfl⟩) (.inl rfl)
  rw[dY,sr (by omega) (by omega),sr (by omega) (by omega),x3,x6,y3,y6]
  clear k1 k2 k3 x1 x2 x3 x4 x5 x6 x7 x8 y1 y2 y3 y4 y5 y6 y7 y8
  show ic [(_,_),(_,_)] l↔_
  rw[gu]
  constructor
  ·rintro⟨u,l',rfl,h1,h2⟩
   obtain⟨v,rfl,h2⟩:=p8.1 h2
   simp only at h1 h2
   have g:=(key (u-192) (v-128)).1 (by omega)
   clear key
   have e:(u-192)*64+(v-128)=0*262144+0*4096+(u-192)*64+(v-128):=by omega
   obtain⟨g1,g2,g3,g4,g5,g6,g7,g8⟩:=gk e (by omega) g.2.1 g.2.2.1
   refine⟨(u-192)*64+(v-128),by omega,by omega,?_⟩
   rw[sr (by omega) (by omega),g3,g6]
   congr 1
   ·omega
   ·congr 1;omega
  ·rintro⟨x,h1,h2,rfl⟩
   obtain⟨p,q,r,t,ex,hp,hq,hr,ht⟩:=dig (show 0≤x by omega)
   have z2:p=0∧q=0:=by clear key;omega
   obtain⟨rfl,rfl⟩:=z2
   obtain⟨g1,g2,g3,g4,g5,g6,g7,g8⟩:=gk ex hq hr ht
   have g:=(key r t).2 (by omega)
   rw[sr (by omega) (by omega),g3,g6]
   clear key g1 g2 g3 g4 g5 g6 g7 g8
   refine⟨_,_,rfl,?_,p8.2 ⟨_,rfl,?_⟩⟩
   ·simp only;omega
   ·simp only;omega
 ·have hs:bB s.lo=3:=by unfold bB;rw[if_neg (by omega),if_neg (by omega),if_pos (by omega)]
  have k1:=k1 (by omega)
  have k2:=k2 (by omega)
  have z1:a=0∧a'=0:=by clear k1 k2 k3 x1 x2 x3 x4 x5 x6 x7 x8 y1 y2 y3 y4 y5 y6 y7 y8;omega
  obtain⟨rfl,rfl⟩:=z1
  have key:=fun y z w:Int=>uC (a:=0) (a':=0) (x:=0) (y:=y) (z:=z) (w:=w) hb hc hd hb' hc' hd' k1 k2 (.inl rfl)
  rw[dY,qV (by omega) (by omega),qV (by omega) (by omega),x2,x5,x6,y2,y5,y6]
  clear k1 k2 k3 x1 x2 x3 x4 x5 x6 x7 x8 y1 y2 y3 y4 y5 y6 y7 y8
  show ic [(_,_),(_,_),(_,_)] l↔_
  rw[gu]
  constructor
  ·rintro⟨u,l',rfl,h1,h2⟩
   obtain⟨v,l',rfl,h2,h3⟩:=gu.1 h2
   obtain⟨w,rfl,h3⟩:=p8.1 h3
   simp only at h1 h2 h3
   have g:=(key (u-224) (v-128) (w-128)).1 (by omega)
   clear key
   have e:(u-224)*4096+(v-128)*64+(w-128)=0*262144+(u-224)*4096+(v-128)*64+(w-128):=by omega
   obtain⟨g1,g2,g3,g4,g5,g6,g7,g8⟩:=gk e g.1 g.2.1 g.2.2.1
   refine⟨(u-224)*4096+(v-128)*64+(w-128),by omega,by omega,?_⟩
   rw[qV (by omega) (by omega),g2,g5,g6]
   clear g1 g2 g3 g4 g5 g6 g7 g8
   congr 1
   ·omega
   ·congr 1
    ·omega
    ·congr 1;omega
  ·rintro⟨x,h1,h2,rfl⟩
   obtain⟨p,q,r,t,ex,hp,hq,hr,ht⟩:=dig (show 0≤x by omega)
   have z2:p=0:=by clear key;omega
   obtain rfl:=z2
   obtain⟨g1,g2,g3,g4,g5,g6,g7,g8⟩:=gk ex hq hr ht
   have g:=(key q r t).2 (by omega)
   rw[qV (by omega) (by omega),g2,g5,g6]
   clear key g1 g2 g3 g4 g5 g6 g7 g8
   refine⟨_,_,rfl,?_,gu.2 ⟨_,_,rfl,?_,p8.2 ⟨_,rfl,?_⟩⟩⟩
   ·simp only;omega
   ·simp only;omega
   ·simp only;omega
 ·have hs:bB s.lo=4:=by unfold bB;rw[if_neg (by omega),if_neg (by omega),if_neg (by omega)]
  have k1:=k1 (by omega)
  have k2:=k2 (by omega)
  have k3:=k3 (by omega)
  have key:=fun x y z w:Int=>uC (x:=x) (y:=y) (z:=z) (w:=w) hb hc hd hb' hc' hd' k1 k2 k3
  rw[dY,sq (by omega),sq (by omega),x1,x4,x5,x6,y1,y4,y5,y6]
  clear k1 k2 k3 x1 x2 x3 x4 x5 x6 x7 x8 y1 y2 y3 y4 y5 y6 y7 y8
  show ic [(_,_),(_,_),(_,_),(_,_)] l↔_
  rw[gu]
  constructor
  ·rintro⟨u,l',rfl,h1,h2⟩
   obtain⟨v,l',rfl,h2,h3⟩:=gu.1 h2
   obtain⟨w,l',rfl,h3,h4⟩:=gu.1 h3
   obtain⟨o,rfl,h4⟩:=p8.1 h4
   simp only at h1 h2 h3 h4
   have g:=(key (u-240) (v-128) (w-128) (o-128)).1 (by omega)
   clear key
   obtain⟨g1,g2,g3,g4,g5,g6,g7,g8⟩:=gk (x:=(u-240)*262144+(v-128)*4096+(w-128)*64+(o-128)) rfl g.1 g.2.1 g.2.2.1
   refine⟨(u-240)*262144+(v-128)*4096+(w-128)*64+(o-128),by omega,by omega,?_⟩
   rw[sq (by omega),g1,g4,g5,g6]
   clear g1 g2 g3 g4 g5 g6 g7 g8
   congr 1
   ·omega
   ·congr 1
    ·omega
    ·congr 1
     ·omega
     ·congr 1;omega
  ·rintro⟨x,h1,h2,rfl⟩
   obtain⟨p,q,r,t,ex,hp,hq,hr,ht⟩:=dig (show 0≤x by omega)
   obtain⟨g1,g2,g3,g4,g5,g6,g7,g8⟩:=gk ex hq hr ht
   have g:=(key p q r t).2 (by omega)
   rw[sq (by omega),g1,g4,g5,g6]
   clear key g1 g2 g3 g4 g5 g6 g7 g8
   refine⟨_,_,rfl,?_,gu.2 ⟨_,_,rfl,?_,gu.2 ⟨_,_,rfl,?_,p8.2 ⟨_,rfl,?_⟩⟩⟩⟩
   ·simp only;omega
   ·simp only;omega
   ·simp only;omega
   ·simp only;omega
end
section
open Go
def fK:List Int→ai→Int
 | [],_=>0
 | m::ms,s=>if s.lo / m=s.hi / m then fK ms s else if s.lo%m≠0 then(s.lo / m+1)*m else if s.hi%m≠m-1 then s.hi / m*m else fK ms s
def jb:Nat→List Int
 | 2=>[64]
 | 3=>[64,4096]
 | 4=>[64,4096,262144]
 | _=>[]
def eU (s:ai):Int:=fK (jb (bB s.lo)) s
theorem wv {ms:List Int}(hm:∀ m∈ms,m=64∨m=4096∨m=262144){s:ai}(h0:0≤s.lo)(hle:s.lo≤s.hi):(fK ms s=0∧∀ m∈ms,iY m s)∨(s.lo<fK ms s∧fK ms s≤s.hi):=by
 induction ms with
 | nil=>exact .inl ⟨rfl,by simp⟩
 | cons m ms ih =>
  have ih:=ih fun m hm2=>hm m (by simp[hm2])
  have hm:=hm m (by simp)
  unfold fK
  split
  ·rename_i h1
   rcases ih with⟨i1,i2⟩|i1
   ·refine .inl ⟨i1,fun q hq=>?_⟩
    rcases List.mem_cons.1 hq with rfl|hq
    ·exact .inl h1
    ·exact i2 q hq
   ·exact .inr i1
  ·rename_i h1
   split
   ·rename_i h2
    right
    rcases hm with rfl|rfl|rfl<;>omega
   ·rename_i h2
    split
    ·rename_i h3
     right
     rcases hm with rfl|rfl|rfl<;>omega
    ·rename_i h3
     rcases ih with⟨i1,i2⟩|i1
     ·refine .inl ⟨i1,fun q hq=>?_⟩
      rcases List.mem_cons.1 hq with rfl|hq
      ·exact .inr ⟨by omega,by omega⟩
      ·exact i2 q hq
     ·exact .inr i1
theorem oV {n:Nat}:∀ m∈jb n,m=64∨m=4096∨m=262144:=by
 intro m hm
 unfold jb at hm
 split at hm<;>simp at hm<;>omega
theorem oX {s:ai}(h0:0≤s.lo)(hle:s.lo≤s.hi):eU s=0∨(s.lo<eU s∧eU s≤s.hi):=by
 rcases wv (ms:=jb (bB s.lo)) oV h0 hle with h|h
 ·exact .inl h.1
 ·exact .inr h
theorem IG {s:ai}(h:OneSize s)(hp:eU s=0):FA s:=by
 rcases wv (ms:=jb (bB s.lo)) oV h.lo h.le with h1|h1
 ·have h2:=h1.2
  have hr:=cO s.lo
  refine⟨h,fun q=>?_,fun q=>?_,fun q=>?_⟩
  ·have:bB s.lo=2∨bB s.lo=3∨bB s.lo=4:=by omega
   rcases this with e|e|e<;>rw[e]at h2<;>exact h2 _ (by simp[jb])
  ·have:bB s.lo=3∨bB s.lo=4:=by omega
   rcases this with e|e<;>rw[e]at h2<;>exact h2 _ (by simp[jb])
  ·have e:bB s.lo=4:=by omega
   rw[e]at h2
   exact h2 _ (by simp[jb])
 ·have:s.lo<eU s:=h1.1
  have:=h.lo
  omega
def iF (s:ai):List ai:=if h:s.lo<eU s∧eU s≤s.hi then iF ⟨s.lo,eU s-1⟩++iF ⟨eU s,s.hi⟩ else [s]
termination_by (s.hi-s.lo).toNat
decreasing_by
 all_goals omega
theorem lO {x y:Int}(h:x≤y):bB x≤bB y:=by
 unfold bB
 repeat' split
 all_goals omega
theorem qL {s:ai}(h:OneSize s){x:Int}(h1:s.lo<x)(h2:x≤s.hi):OneSize ⟨s.lo,x-1⟩∧OneSize ⟨x,s.hi⟩:=by
 have a1:=lO (x:=s.lo) (y:=x-1) (by omega)
 have a2:=lO (x:=x-1) (y:=x) (by omega)
 have a3:=lO (x:=x) (y:=s.hi) h2
 have a4:=h.size
 have b1:=h.lo
 have b2:=h.hi
 exact⟨⟨b1,by show s.lo≤x-1;omega,by show x-1≤_;omega,by show bB s.lo=bB (x-1);omega⟩,⟨by show 0≤x;omega,h2,b2,by show bB x=bB s.hi;omega⟩⟩
theorem lB (s:ai)(h:OneSize s):(∀ q∈iF s,FA q)∧(∀ x,inS (iF s) x↔s.lo≤x∧x≤s.hi)∧(iF s).Pairwise fun a b=>a.hi<b.lo:=by
 unfold iF
 split
 ·rename_i hx
  obtain⟨h1,h2⟩:=qL h hx.1 hx.2
  obtain⟨a1,a2,a3⟩:=lB _ h1
  obtain⟨b1,b2,b3⟩:=lB _ h2
  refine⟨fun q hq=>?_,fun x=>?_,?_⟩
  ·rcases List.mem_append.1 hq with hq|hq
   ·exact a1 q hq
   ·exact b1 q hq
  ·have e:inS (iF ⟨s.lo,eU s-1⟩++iF ⟨eU s,s.hi⟩) x↔inS (iF ⟨s.lo,eU s-1⟩) x∨inS (iF ⟨eU s,s.hi⟩) x:=by
    unfold inS
    simp only[List.mem_append]
    constructor
    ·rintro⟨q,hq|hq,h⟩
     ·exact .inl ⟨q,hq,h⟩
     ·exact .inr ⟨q,hq,h⟩
    ·rintro(⟨q,hq,h⟩|⟨q,hq,h⟩)
     ·exact⟨q,.inl hq,h⟩
     ·exact⟨q,.inr hq,h⟩
   rw[e,a2,b2]
   simp only
   omega
  ·rw[List.pairwise_append]
   refine⟨a3,b3,fun p hp q hq=>?_⟩
   have g1:=(a1 p hp).le
   have g2:=(b1 q hq).le
   have c1:=(a2 p.hi).1 ⟨p,hp,g1,Int.le_refl _⟩
   have c2:=(b2 q.lo).1 ⟨q,hq,Int.le_refl _,g2⟩
   simp only at c1 c2
   omega
 ·rename_i hx
  have hp:eU s=0:=(oX h.lo h.le).resolve_right hx
  refine⟨fun q hq=>?_,fun x=>?_,by simp⟩
  ·simp only[List.mem_singleton]at hq
   subst hq
   exact IG h hp
  ·unfold inS
   simp
termination_by (s.hi-s.lo).toNat
decreasing_by
 all_goals omega
def jw:List (Int×Int):=[(0,127),(128,2047),(2048,65535),(65536,1114111)]
def de (s:ai):List ai:=jw.filterMap fun p=>if max s.lo p.1≤min s.hi p.2 then some ⟨max s.lo p.1,min s.hi p.2⟩ else none
theorem lN {s q:ai}:q∈de s↔∃ p∈jw,max s.lo p.1≤min s.hi p.2∧q=⟨max s.lo p.1,min s.hi p.2⟩:=by
 unfold de
 rw[List.mem_filterMap]
 constructor
 ·rintro⟨p,hp,h⟩
  split at h
  ·exact⟨p,hp,by assumption,(Option.some.inj h).symm⟩
  ·cases h
 ·rintro⟨p,hp,h1,rfl⟩
  exact⟨p,hp,if_pos h1⟩
theorem lM {s q:ai}(h:q∈de s):OneSize q:=by
 obtain⟨p,hp,h1,rfl⟩:=lN.1 h
 simp only[jw,List.mem_cons,List.not_mem_nil,or_false]at hp
 rcases hp with rfl|rfl|rfl|rfl<;>simp only at h1 ⊢
 ·exact⟨by simp only;omega,h1,by simp only;omega,by simp only[bB];rw[if_pos (by omega),if_pos (by omega)]⟩
 ·exact⟨by simp only;omega,h1,by simp only;omega,by simp only[bB];rw[if_neg (by omega),if_pos (by omega),if_neg (by omega),if_pos (by omega)]⟩
 ·exact⟨by simp only;omega,h1,by simp only;omega,by simp only[bB];rw[if_neg (by omega),if_neg (by omega),if_pos (by omega),if_neg (by omega),if_neg (by omega),if_pos (by omega)]⟩
 ·exact⟨by simp only;omega,h1,by simp only;omega,by simp only[bB];rw[if_neg (by omega),if_neg (by omega),if_neg (by omega),if_neg (by omega),if_neg (by omega),if_neg (by omega)]⟩
theorem wk {s:ai}(h0:0≤s.lo)(h1:s.hi≤1114111)(x:Int):inS (de s) x↔s.lo≤x∧x≤s.hi:=by
 constructor
 ·rintro⟨q,hq,hx⟩
  obtain⟨p,hp,h2,rfl⟩:=lN.1 hq
  simp only at hx
  omega
 ·intro hx
  have:∃ p∈jw,p.1≤x∧x≤p.2:=by
   by_cases c1:x<128
   ·exact⟨(0,127),by simp[jw],by simp only;omega,by simp only;omega⟩
   ·by_cases c2:x<2048
    ·exact⟨(128,2047),by simp[jw],by simp only;omega,by simp only;omega⟩
    ·by_cases c3:x<65536
     ·exact⟨(2048,65535),by simp[jw],by simp only;omega,by simp only;omega⟩
     ·exact⟨(65536,1114111),by simp[jw],by simp only;omega,by simp only;omega⟩
  obtain⟨p,hp,h2,h3⟩:=this
  exact⟨_,lN.2 ⟨p,hp,by omega,rfl⟩,by simp only;omega,by simp only;omega⟩
theorem vd (s:ai):(de s).Pairwise fun a b=>a.hi<b.lo:=by
 unfold de
 refine List.Pairwise.filterMap _ (R:=fun a b:Int×Int=>a.2<b.1) (fun a b hab x hx y hy=>?_) (by simp[jw])
 split at hx
 ·split at hy
  ·have hx:=Option.some.inj (Option.mem_def.1 hx)
   have hy:=Option.some.inj (Option.mem_def.1 hy)
   subst hx hy
   simp only
   omega
  ·cases hy
 ·cases hx
def eV (l:List ai):List ai:=((bi l).flatMap de).flatMap iF
def dh (l:List ai):List (List (Int×Int)):=(eV l).map dY
theorem og {l:List ai}{s:ai}(h:s∈bi l):0≤s.lo∧s.hi≤1114111∧s.lo≤s.hi:=by
 have hc:=(jE l).1
 have hle:=hc.2 s h
 have h1:=(gV (l:=l) (x:=s.lo)).1 ⟨s,h,Int.le_refl _,hle⟩
 have h2:=(gV (l:=l) (x:=s.hi)).1 ⟨s,h,hle,Int.le_refl _⟩
 have h1:=h1.1
 have h2:=h2.1
 simp only[cv,Bool.and_eq_true,Bool.or_eq_true,decide_eq_true_eq]at h1 h2
 omega
theorem rK {f:ai→List ai}:∀ {L:List ai},L.Pairwise (fun a b=>a.hi<b.lo)→(∀ s∈L,∀ q∈f s,s.lo≤q.lo∧q.hi≤s.hi)→(∀ s∈L,(f s).Pairwise fun a b=>a.hi<b.lo)→(L.flatMap f).Pairwise fun a b=>a.hi<b.lo
 | [],_,_,_=>by simp
 | s::L,h1,h2,h3=>by
  rw[List.flatMap_cons,List.pairwise_append]
  obtain⟨g1,g2⟩:=List.pairwise_cons.1 h1
  refine⟨h3 s (by simp),rK g2 (fun t ht=>h2 t (by simp[ht])) (fun t ht=>h3 t (by simp[ht])),fun a ha b hb=>?_⟩
  obtain⟨t,ht,hb⟩:=List.mem_flatMap.1 hb
  have c1:=h2 s (by simp) a ha
  have c2:=h2 t (by simp[ht]) b hb
  have c3:=g1 t ht
  omega
theorem iJ (l:List ai):(∀ q∈eV l,FA q)∧(∀ x,inS (eV l) x↔inS (bi l) x)∧(eV l).Pairwise fun a b=>a.hi<b.lo:=by
 have hone:∀ q∈(bi l).flatMap de,OneSize q:=fun q hq=>by
  obtain⟨s,_,hq⟩:=List.mem_flatMap.1 hq
  exact lM hq
 have hin:∀ {L:List ai} {f:ai→List ai},(∀ s∈L,∀ x,inS (f s) x↔s.lo≤x∧x≤s.hi)→∀ x,inS (L.flatMap f) x↔inS L x:=by
  intro L f hf x
  constructor
  ·rintro⟨q,hq,hx⟩
   obtain⟨s,hs,hq⟩:=List.mem_flatMap.1 hq
   exact⟨s,hs,(hf s hs x).1 ⟨q,hq,hx⟩⟩
  ·rintro⟨s,hs,hx⟩
   obtain⟨q,hq,hx⟩:=(hf s hs x).2 hx
   exact⟨q,List.mem_flatMap.2 ⟨s,hs,hq⟩,hx⟩
 have hc:=(jE l).1
 have hnp:(bi l).Pairwise fun a b=>a.hi<b.lo:=hc.1.imp fun {a b} h=>by omega
 refine⟨fun q hq=>?_,fun x=>?_,?_⟩
 ·obtain⟨s,hs,hq⟩:=List.mem_flatMap.1 hq
  exact(lB s (hone s hs)).1 q hq
 ·unfold eV
  rw[hin (fun s hs=>(lB s (hone s hs)).2.1),hin (fun s hs=>wk (og hs).1 (og hs).2.1)]
 ·unfold eV
  refine rK (rK hnp (fun s hs q hq=>?_) (fun s hs=>vd s)) (fun s hs q hq=>?_) (fun s hs=>(lB s (hone s hs)).2.2)
  ·obtain⟨p,hp,h1,rfl⟩:=lN.1 hq
   exact⟨by simp only;omega,by simp only;omega⟩
  ·obtain⟨k1,k2,k3⟩:=lB s (hone s hs)
   have g:=(k1 q hq).le
   exact⟨((k2 q.lo).1 ⟨q,hq,Int.le_refl _,g⟩).1,((k2 q.hi).1 ⟨q,hq,g,Int.le_refl _⟩).2⟩
def K0:List Int→Int
 | [a]=>a
 | [a,b]=>(a-192)*64+(b-128)
 | [a,b,c]=>(a-224)*4096+(b-128)*64+(c-128)
 | [a,b,c,d]=>(a-240)*262144+(b-128)*4096+(c-128)*64+(d-128)
 | _=>0
theorem Cq {x:Int}(h:0≤x):K0 (br x)=x:=by
 obtain⟨a,b,c,d,e,ha,hb,hc,hd⟩:=dig h
 obtain⟨g1,g2,g3,g4,g5,g6,g7,g8⟩:=gk e hb hc hd
 unfold br
 split
 ·rfl
 ·split
  ·rw[g3,g6];show(_-_)*_+_=_;omega
  ·split
   ·rw[g2,g5,g6];show(_-_)*_+_+_=_;omega
   ·rw[g1,g4,g5,g6];show(_-_)*_+_+_+_=_;omega
def I3 (c:Int):Nat:=if c<192 then 1 else if c<224 then 2 else if c<240 then 3 else 4
theorem zV {x:Int}(h:0≤x):∃ c t,br x=c::t∧I3 c=bB x∧(c<128∨(194≤c∧(x≤1114111→c≤244))):=by
 unfold br bB I3
 split
 ·exact⟨_,_,rfl,by rw[if_pos (by omega)],.inl (by omega)⟩
 ·split
  ·exact⟨_,_,rfl,by rw[if_neg (by omega),if_pos (by omega)],.inr ⟨by omega,fun _=>by omega⟩⟩
  ·split
   ·exact⟨_,_,rfl,by rw[if_neg (by omega),if_neg (by omega),if_pos (by omega)],.inr ⟨by omega,fun _=>by omega⟩⟩
   ·exact⟨_,_,rfl,by rw[if_neg (by omega),if_neg (by omega),if_neg (by omega)],.inr ⟨by omega,fun _=>by omega⟩⟩
theorem zW {x y:Int}(hx:0≤x)(hy:0≤y){t:List Int}(h:br x++t=br y):x=y∧t=[]:=by
 obtain⟨c,u,e1,s1,_⟩:=zV hx
 obtain⟨d,w,e2,s2,_⟩:=zV hy
 have h1:=h
 rw[e1,e2]at h1
 injection h1 with h1 h2
 subst h1
 have hl:(br x++t).length=(br y).length:=by rw[h]
 rw[List.length_append,dv,dv]at hl
 have ht:t=[]:=List.eq_nil_of_length_eq_zero (by omega)
 subst ht
 rw[List.append_nil]at h
 exact⟨by rw[← Cq hx,← Cq hy,h],rfl⟩
theorem qz {l:List ai}(b:List Int):(∃ r∈dh l,ic r b)↔∃ x,inS (bi l) x∧br x=b:=by
 obtain⟨h1,h2,h3⟩:=iJ l
 unfold dh
 constructor
 ·rintro⟨r,hr,hb⟩
  obtain⟨s,hs,rfl⟩:=List.mem_map.1 hr
  obtain⟨x,g1,g2,g3⟩:=(qA (h1 s hs) b).1 hb
  exact⟨x,(h2 x).1 ⟨s,hs,g1,g2⟩,g3⟩
 ·rintro⟨x,hx,rfl⟩
  obtain⟨s,hs,g1,g2⟩:=(h2 x).2 hx
  exact⟨_,List.mem_map.2 ⟨s,hs,rfl⟩,(qA (h1 s hs) _).2 ⟨x,g1,g2,rfl⟩⟩
end
section
open Go
abbrev ju:=List (Int×Int)
abbrev Way:=ju×Int
def dQ (l:List Way)(c:Int):List Way:=l.filterMap fun w=>match w.1 with
 | []=>none
 | p::r=>if p.1≤c∧c≤p.2 then some (r,w.2) else none
inductive Stp where
 | none
 | own (i:Int)
 | amid (l:List Way)
def iZ (l:List Way)(c:Int):Stp:=match (dQ l c).find? fun w=>w.1.isEmpty with
 | some w => .own w.2
 | none=>if dQ l c=[] then .none else .amid (dQ l c)
def yp (l:List Way)(b:List Int)(t:Int):Prop:=∃ w∈l,ic w.1 b∧w.2=t
structure w8 (l:List Way):Prop where
 ne:∀ w∈l,w.1≠[]∧∀ p∈w.1,p.1≤p.2
 free:∀ w∈l,∀ v∈l,∀ b t,ic w.1 b→ic v.1 (b++t)→t=[]∧w.2=v.2
theorem eK {l:List Way}{c:Int}{v:Way}:v∈dQ l c↔∃ p,(p::v.1,v.2)∈l∧p.1≤c∧c≤p.2:=by
 unfold dQ
 rw[List.mem_filterMap]
 constructor
 ·rintro⟨⟨r,t⟩,hw,h⟩
  cases r with
  | nil=>cases h
  | cons p r =>
   simp only at h
   split at h
   ·rename_i hc
    have:=Option.some.inj h
    subst this
    exact⟨p,hw,hc⟩
   ·cases h
 ·rintro⟨p,hp,hc⟩
  exact⟨_,hp,by simp only;rw[if_pos hc]⟩
theorem re {l:List Way}{c:Int}{b:List Int}{t:Int}:yp l (c::b) t↔yp (dQ l c) b t:=by
 constructor
 ·rintro⟨⟨r,q⟩,hw,h1,rfl⟩
  cases r with
  | nil=>exact absurd h1 (by simp[ic])
  | cons p r=>exact⟨(r,q),eK.2 ⟨p,hw,h1.1⟩,h1.2,rfl⟩
 ·rintro⟨v,hv,h1,rfl⟩
  obtain⟨p,hp,hc⟩:=eK.1 hv
  exact⟨_,hp,⟨hc,h1⟩,rfl⟩
theorem up {r:ju}(h:∀ p∈r,p.1≤p.2):∃ b,ic r b:=by
 induction r with
 | nil=>exact⟨[],trivial⟩
 | cons p r ih =>
  obtain⟨b,hb⟩:=ih fun q hq=>h q (by simp[hq])
  exact⟨p.1::b,⟨Int.le_refl _,h p (by simp)⟩,hb⟩
theorem Fi {r:ju}(h:ic r []):r=[]:=by
 cases r with
 | nil=>rfl
 | cons p r=>exact absurd h (by simp[ic])
theorem rg {l:List Way}(h:w8 l)(t:Int):¬ yp l [] t:=by
 rintro⟨w,hw,h1,_⟩
 exact(h.ne w hw).1 (Fi h1)
theorem AC {l:List Way}{c:Int}(h:iZ l c = .none):dQ l c=[]:=by
 unfold iZ at h
 split at h
 ·cases h
 ·split at h
  ·assumption
  ·cases h
theorem C0 {l:List Way}(hg:w8 l){c i:Int}(h:iZ l c = .own i)(b:List Int)(t:Int):yp l (c::b) t↔b=[]∧t=i:=by
 unfold iZ at h
 split at h
 ·rename_i w hw
  injection h with h
  have hm:=List.mem_of_find?_eq_some hw
  have he:w.1=[]:=by simpa using List.find?_some hw
  obtain⟨p,hp,hc⟩:=eK.1 hm
  rw[he]at hp
  rw[re]
  constructor
  ·rintro⟨v,hv,h1,rfl⟩
   obtain⟨q,hq,hqc⟩:=eK.1 hv
   obtain⟨g1,g2⟩:=hg.free _ hp _ hq [c] b ⟨hc,trivial⟩ ⟨hqc,h1⟩
   exact⟨g1,g2.symm.trans h⟩
  ·rintro⟨rfl,rfl⟩
   exact⟨w,hm,by rw[he];trivial,h⟩
 ·split at h<;>cases h
theorem AD {l l':List Way}(hg:w8 l){c:Int}(h:iZ l c = .amid l'):l'=dQ l c∧l'≠[]∧w8 l':=by
 unfold iZ at h
 split at h
 ·cases h
 ·rename_i hf
  split at h
  ·cases h
  ·rename_i hne
   injection h with h
   subst h
   refine⟨rfl,hne,⟨fun v hv=>⟨?_,?_⟩,fun w hw v hv b t h1 h2=>?_⟩⟩
   ·intro e
    have:=List.find?_eq_none.1 hf v hv
    simp[e]at this
   ·obtain⟨p,hp,_⟩:=eK.1 hv
    exact fun q hq=>(hg.ne _ hp).2 q (by simp[hq])
   ·obtain⟨p,hp,hpc⟩:=eK.1 hw
    obtain⟨q,hq,hqc⟩:=eK.1 hv
    exact hg.free _ hp _ hq (c::b) t ⟨hpc,h1⟩ ⟨hqc,h2⟩
def cN (parts:List (List ai))(next:List Int):List Way:=(parts.zip next).flatMap fun p=>if p.2 = -1 then [] else(dh p.1).map fun r=>(r,p.2)
theorem fG {parts:List (List ai)}{next:List Int}{w:Way}:w∈cN parts next↔∃ (k:Nat) (p:List ai),parts[k]?=some p∧next[k]?=some w.2∧w.2 ≠ -1∧w.1∈dh p:=by
 unfold cN
 rw[List.mem_flatMap]
 constructor
 ·rintro⟨⟨p,t⟩,hp,h⟩
  simp only at h
  split at h
  ·cases h
  ·rename_i ht
   obtain⟨r,hr,rfl⟩:=List.mem_map.1 h
   obtain⟨k,hk⟩:=List.getElem?_of_mem hp
   obtain⟨a1,a2⟩:=List.getElem?_zip_eq_some.1 hk
   exact⟨k,p,a1,a2,ht,hr⟩
 ·rintro⟨k,p,h1,h2,h3,h4⟩
  refine⟨(p,w.2),List.mem_of_getElem? (List.getElem?_zip_eq_some.2 ⟨h1,h2⟩),?_⟩
  simp only
  rw[if_neg h3]
  exact List.mem_map.2 ⟨w.1,h4,rfl⟩
def BQ (parts:List (List ai)):Prop:=∀ (i j:Nat) (p q:List ai),parts[i]?=some p→parts[j]?=some q→∀ x,inS (bi p) x→inS (bi q) x→i=j
theorem kT {l:List ai}{x:Int}(h:inS (bi l) x):0≤x∧x≤1114111:=by
 have h1:=cx.1 (gV.1 h).1
 omega
theorem B3 {l:List ai}{r:ju}(h:r∈dh l):r≠[]∧∀ p∈r,p.1≤p.2:=by
 obtain⟨s,hs,rfl⟩:=List.mem_map.1 h
 have hf:=(iJ l).1 s hs
 have h1:=(qA hf (br s.lo)).2 ⟨s.lo,Int.le_refl _,hf.le,rfl⟩
 have key:∀ {r:ju} {b:List Int},ic r b→∀ p∈r,p.1≤p.2:=by
  intro r
  induction r with
  | nil=>intro b _ p hp;cases hp
  | cons q r ih =>
   intro b hb p hp
   obtain⟨c,b',rfl,h1,h2⟩:=gu.1 hb
   rcases List.mem_cons.1 hp with rfl|hp
   ·omega
   ·exact ih h2 p hp
 refine⟨fun e=>?_,key h1⟩
 have hl:(dY s).length=0:=by rw[e];rfl
 unfold dY at hl
 rw[List.length_zip,dv,dv]at hl
 have:=cO s.lo
 have:=cO s.hi
 omega
theorem Ax {parts:List (List ai)}(ha:BQ parts)(next:List Int):w8 (cN parts next):=by
 refine⟨fun w hw=>?_,fun w hw v hv b t h1 h2=>?_⟩
 ·obtain⟨k,p,_,_,_,h⟩:=fG.1 hw
  exact B3 h
 ·obtain⟨i,p,a1,a2,a3,a4⟩:=fG.1 hw
  obtain⟨j,q,b1,b2,b3,b4⟩:=fG.1 hv
  obtain⟨x,x1,x2⟩:=(qz b).1 ⟨_,a4,h1⟩
  obtain⟨y,y1,y2⟩:=(qz (b++t)).1 ⟨_,b4,h2⟩
  obtain⟨e1,e2⟩:=zW (kT x1).1 (kT y1).1 (t:=t) (by rw[x2,y2])
  subst e1
  have e3:=ha i j p q a1 b1 x x1 y1
  subst e3
  rw[a2]at b2
  exact⟨e2,Option.some.inj b2⟩
theorem CS {parts:List (List ai)}{next:List Int}{b:List Int}{t:Int}:yp (cN parts next) b t↔∃ (k:Nat) (p:List ai) (x:Int),parts[k]?=some p∧next[k]?=some t∧t ≠ -1∧inS (bi p) x∧br x=b:=by
 constructor
 ·rintro⟨w,hw,h1,rfl⟩
  obtain⟨k,p,a1,a2,a3,a4⟩:=fG.1 hw
  obtain⟨x,x1,x2⟩:=(qz b).1 ⟨_,a4,h1⟩
  exact⟨k,p,x,a1,a2,a3,x1,x2⟩
 ·rintro⟨k,p,x,a1,a2,a3,x1,x2⟩
  obtain⟨r,r1,r2⟩:=(qz b).2 ⟨x,x1,x2⟩
  exact⟨(r,t),fG.2 ⟨k,p,a1,a2,a3,r1⟩,r2,rfl⟩
end
section
open Go
def cE {α:Type}[DecidableEq α](L:List α)(to:Option α):List α:=match to with
 | none=>L
 | some a=>if a∈L then L else L++[a]
def cL {α:Type}[DecidableEq α](L:List α)(tos:List (Option α)):List α:=tos.foldl cE L
def gR {α:Type}[DecidableEq α](L:List α)(to:Option α):Int:=match to with
 | none => -1
 | some a=>(L.idxOf a:Nat)
def eZ {α:Type}[DecidableEq α](row:α→List (Option α))(s0:α):Nat→List α
 | 0=>[s0]
 | i+1=>match (eZ row s0 i)[i]? with
  | none=>eZ row s0 i
  | some a=>cL (eZ row s0 i) (row a)
theorem pI {α:Type}[DecidableEq α](L:List α)(to:Option α):L <+: cE L to:=by
 cases to with
 | none=>exact List.prefix_refl _
 | some a =>
  show L <+: if a∈L then L else L++[a]
  split
  ·exact List.prefix_refl _
  ·exact List.prefix_append _ _
theorem me {α:Type}[DecidableEq α](tos:List (Option α)):∀ L:List α,L <+: cL L tos:=by
 induction tos with
 | nil=>exact fun L=>List.prefix_refl _
 | cons a tos ih=>exact fun L=>(pI L a).trans (ih _)
theorem Az {α:Type}[DecidableEq α]{L:List α}{a:α}:a∈cE L (some a):=by
 show a∈if a∈L then L else L++[a]
 split
 ·assumption
 ·simp
theorem r5 {α:Type}[DecidableEq α]{tos:List (Option α)}:∀ {L:List α} {a:α},some a∈tos→a∈cL L tos:=by
 induction tos with
 | nil=>intro L a h;cases h
 | cons b tos ih =>
  intro L a h
  rcases List.mem_cons.1 h with rfl|h
  ·exact(me tos _).subset Az
  ·exact ih h
theorem xe {α:Type}[DecidableEq α](L:List α)(tos:List (Option α))(to:Option α):cL L (tos++[to])=cE (cL L tos) to:=by simp[cL]
theorem xf {α:Type}[DecidableEq α]{L:List α}(h:L.Nodup)(to:Option α):(cE L to).Nodup:=by
 cases to with
 | none=>exact h
 | some a =>
  show(if a∈L then L else L++[a]).Nodup
  split
  ·exact h
  ·rename_i h1
   rw[List.nodup_append]
   refine⟨h,by simp,fun x hx y hy e=>?_⟩
   simp only[List.mem_singleton]at hy
   subst hy e
   exact h1 hx
theorem pu {α:Type}[DecidableEq α]:∀ {tos:List (Option α)} {L:List α},L.Nodup→(cL L tos).Nodup
 | [],_,h=>h
 | to::tos,_,h=>pu (tos:=tos) (xf h to)
theorem nU {α:Type}[DecidableEq α]:∀ {tos:List (Option α)} {L:List α} {a:α},a∈cL L tos→a∈L∨some a∈tos
 | [],_,_,h => .inl h
 | to::tos,L,a,h=>by
  rcases nU (tos:=tos) (L:=cE L to) h with h|h
  ·cases to with
   | none=>exact .inl h
   | some b =>
    change a∈(if b∈L then L else L++[b]) at h
    split at h
    ·exact .inl h
    ·rcases List.mem_append.1 h with h|h
     ·exact .inl h
     ·simp only[List.mem_singleton]at h
      subst h
      exact .inr (by simp)
  ·exact .inr (by simp[h])
theorem HK {α:Type}[DecidableEq α](row:α→List (Option α))(s0:α)(i:Nat):eZ row s0 i <+: eZ row s0 (i+1):=by
 rw[eZ]
 split
 ·exact List.prefix_refl _
 ·exact me _ _
theorem ng {α:Type}[DecidableEq α](row:α→List (Option α))(s0:α){i:Nat}:∀ {j:Nat},i≤j→eZ row s0 i <+: eZ row s0 j:=by
 intro j
 induction j with
 | zero =>
  intro h;have:i=0:=by omega
  subst this;exact List.prefix_refl _
 | succ j ih =>
  intro h
  by_cases e:i=j+1
  ·subst e;exact List.prefix_refl _
  ·exact(ih (by omega)).trans (HK row s0 j)
theorem pi {α:Type}[DecidableEq α](row:α→List (Option α))(s0:α){i:Nat}(h:(eZ row s0 i).length≤i):∀ {j:Nat},i≤j→eZ row s0 j=eZ row s0 i:=by
 intro j
 induction j with
 | zero =>
  intro hj;have:i=0:=by omega
  subst this;rfl
 | succ j ih =>
  intro hj
  by_cases e:i=j+1
  ·subst e;rfl
  ·have h1:=ih (by omega)
   rw[eZ,h1,List.getElem?_eq_none (by omega)]
theorem rh {α:Type}[DecidableEq α](row:α→List (Option α))(s0:α)(i:Nat):1≤(eZ row s0 i).length:=by
 have:=(ng row s0 (Nat.zero_le i)).length_le
 simpa[eZ] using this
theorem qi {α:Type}[DecidableEq α](row:α→List (Option α))(s0:α):∀ i,(eZ row s0 i).Nodup
 | 0=>by simp[eZ]
 | i+1=>by
  rw[eZ]
  split
  ·exact qi row s0 i
  ·exact pu (qi row s0 i)
theorem Ar {α:Type}[DecidableEq α]{row:α→List (Option α)}{s0:α}{i j:Nat}{a:α}(ha:(eZ row s0 i)[i]?=some a)(hij:i+1≤j){b:α}(h:some b∈row a):b∈eZ row s0 j:=by
 have e:eZ row s0 (i+1)=cL (eZ row s0 i) (row a):=by rw[eZ,ha]
 have h1:=r5 (L:=eZ row s0 i) h
 rw[← e]at h1
 exact(ng row s0 hij).subset h1
theorem ri {α:Type}[DecidableEq α]{row:α→List (Option α)}{s0:α}{P:α→Prop}(h0:P s0)(hs:∀ a b,P a→some b∈row a→P b):∀ i,∀ a∈eZ row s0 i,P a
 | 0,a,h=>by
  simp only[eZ,List.mem_singleton]at h
  subst h
  exact h0
 | i+1,a,h=>by
  have ih:=ri h0 hs i
  rw[eZ]at h
  split at h
  ·exact ih a h
  ·rename_i b hb
   rcases nU h with h|h
   ·exact ih a h
   ·exact hs b a (ih b (List.mem_of_getElem? hb)) h
theorem t8 {α:Type}[DecidableEq α]{L M:List α}(h:L <+: M){to:Option α}(ht:∀ a,to=some a→a∈L):gR M to=gR L to:=by
 cases to with
 | none=>rfl
 | some a =>
  obtain⟨t,rfl⟩:=h
  show(((L++t).idxOf a:Nat):Int)=(L.idxOf a:Nat)
  rw[List.idxOf_append,if_pos (ht a rfl)]
theorem oZ {α:Type}[DecidableEq α]{L:List α}{a:α}(h:a∈L):∃ q:Nat,gR L (some a)=q∧q<L.length∧L[q]?=some a:=by
 have h1:=List.idxOf_lt_length_iff.2 h
 exact⟨L.idxOf a,rfl,h1,by rw[List.getElem?_eq_getElem h1,List.getElem_idxOf]⟩
theorem oH {α:Type}[DecidableEq α]{row:α→List (Option α)}{s0:α}{m:Nat}(hle:(eZ row s0 m).length≤m){a:α}{s:Nat}(ha:(eZ row s0 m)[s]?=some a){b:α}(h:some b∈row a):b∈eZ row s0 m:=by
 have hlt:=lt_of_getElem? ha
 have h4:=ng row s0 (show s≤m by omega)
 have h5:(eZ row s0 s)[s]?=some a:=by
  by_cases h5:s<(eZ row s0 s).length
  ·obtain⟨t,e⟩:=h4
   rw[← e,List.getElem?_append_left h5]at ha
   exact ha
  ·have h6:=pi row s0 (i:=s) (by omega) (show s≤m by omega)
   rw[h6]at ha
   exact ha
 exact Ar h5 (by omega) h
theorem BM {α:Type}[DecidableEq α](row:α→List (Option α))(s0:α)(m:Nat):(eZ row s0 m)[0]?=some s0:=by
 obtain⟨t,e⟩:=ng row s0 (Nat.zero_le m)
 rw[← e]
 rfl
def j5 {α:Type}[DecidableEq α](row:α→List (Option α))(A:List α):List (List Int):=A.map fun a=>(row a).map (gR A)
theorem wl {α:Type}[DecidableEq α]{row:α→List (Option α)}{s0:α}{m p:Nat}(hle:(eZ row s0 m).length≤m)(hp:∀ a,(row a).length=p):∀ r∈j5 row (eZ row s0 m),r.length=p∧∀ x∈r,x = -1∨In (eZ row s0 m).length x:=by
 intro r hr
 obtain⟨a,ha,rfl⟩:=List.mem_map.1 hr
 refine⟨by rw[List.length_map,hp],fun x hx=>?_⟩
 obtain⟨to,hto,rfl⟩:=List.mem_map.1 hx
 cases to with
 | none=>exact .inl rfl
 | some b =>
  obtain⟨s,hs⟩:=List.getElem?_of_mem ha
  obtain⟨q,hq,hql,_⟩:=oZ (oH hle hs hto)
  rw[hq]
  right
  unfold In
  omega
end
end Go.Proofs.YtlnobeojgifojaaGreatDoor
