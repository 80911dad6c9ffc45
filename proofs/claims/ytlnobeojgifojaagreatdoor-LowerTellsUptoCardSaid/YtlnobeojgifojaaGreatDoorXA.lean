/- Plain: what the statements ask of a machine of bytes. -/
import Derived.Test.YtlnobeojgifojaaGreatDoorVF
import Derived.Test.YtlnobeojgifojaaGreatDoorWC
import Derived.Test.YtlnobeojgifojaaGreatDoorCF
set_option linter.unusedVariables false
set_option linter.unusedSimpArgs false
namespace Go.Proofs.YtlnobeojgifojaaGreatDoor
section
open Go
theorem zP {d y x:PD}(hd:d.Ok)(hy:eF d y)(hx:jE y x){l:List Int}(hl:∀ z∈l,cv z=true):l7 x 0 (l.flatMap bt) 0 (0,-1)=(((sS l (ig d l).1.toNat:Nat):Int),(ig d l).2):=by
 have hyo:=hy.ok hd
 rw[hx.run hyo fun c hc=>?_,zR hyo fun z hz=>(cx.1 (hl z hz)).1,hy.tells hd]
 obtain⟨z,hz,hc⟩:=List.mem_flatMap.1 hc
 exact oH (hl z hz) c hc
theorem sq {y x:PD}(hyo:y.Ok)(hx:jE y x)(hn:y.n≤9)(hs:(y.parts.map List.length).sum≤100):OkS x:=by
 have h1:=hx.most hyo (K:=3400) (fun i hi=>Nat.le_trans (rM y.parts (y.row i) hyo.norm) Ll)
 have h2:y.n*3400≤9*3400:=Nat.mul_le_mul_right _ hn
 exact⟨hx.ok hyo,by omega⟩
def Bd (r:Int):Dfa:=⟨⟨[⟨[⟨r,r⟩],true⟩],true⟩,⟨[⟨[1],true⟩,⟨[-1],true⟩],true⟩,⟨[-1,5],true⟩⟩
theorem E6 (r:Int):(Bd r).Fits:=by
 refine⟨?_,?_,?_,?_,?_⟩<;>simp[Bd,cV]
theorem Fg {r:Int}(h:cv r=true){y x:PD}(hy:eF (cZ r) y)(hx:jE y x):x=g9 (bt r):=by
 rw[rN h hy]at hx
 exact Iy h hx
theorem Al {r:Int}(h:cv r=true){x:PD}(hx:jE (cZ r) x):OkS x:=by
 refine sq (rI h) hx ?_ ?_
 ·simp[cZ,PD.n]
 ·simp[cZ]
end
section
open Go
set_option maxHeartbeats 4000000
attribute [local irreducible] az bf bm de bz cw dH bJ wop cz bc
def Hu (r:Int):List Int:=if cv r=true then bt r else []
theorem BJ {r:Int}(h:cv r=true):Hu r=bt r:=by unfold Hu;rw[if_pos h]
theorem Ht {r:Int}(h:¬ cv r=true):Hu r=[]:=by unfold Hu;rw[if_neg h]
@[reducible] def Fv (r:Int):AV:=kw (Hu r) true
theorem tZ {Φ:Lib}(L:CO Φ)(r:Int):eQ Φ 245 [.int .i64 r] (Fv r):=by
 refine ba (fun _=>false) rfl L.f245 ?_
 by_cases hs:cv r=true
 ·have h:=cx.1 hs
  have h0:=h.1
  have h1:=h.2.1
  have h2:=h.2.2
  unfold Fv
  rw[BJ hs]
  by_cases c1:r<128
  ·rw[sD c1]
   repeat' first|apply ac|(apply gw;first|(apply gq0;first|refine aq rfl ?_|refine bl rfl ?_|refine aG rfl ?_)|(apply gq1;first|refine cf rfl ?_|refine cj rfl ?_)|(apply gq3;first|((first|refine aA rfl rfl rfl ?_ ?_|refine cN rfl rfl rfl ?_ ?_|refine iy rfl rfl rfl ?_ ?_)<;>(intro hc;try omega)))|refine bb rfl rfl ?_|refine bj (cs:=[AV.int _ _]) rfl rfl ?_|refine kV rfl Ll ?_)|(apply gx;first|apply af|refine ae rfl ?_|apply ay|apply aM|refine ak rfl ?_|refine ai rfl ?_)|apply aa|apply cp
   all_goals exact aJ (v:=kw [(r)%256] true) rfl (by rw[show(r)%256=r by omega])
  by_cases c2:r<2048
  ·rw[sC Ll c2]
   repeat' first|apply ac|(apply gw;first|(apply gq0;first|refine aq rfl ?_|refine bl rfl ?_|refine aG rfl ?_)|(apply gq1;first|refine cf rfl ?_|refine cj rfl ?_)|(apply gq3;first|refine aT rfl rfl rfl Ll Ll ?_|((first|refine aA rfl rfl rfl ?_ ?_|refine cN rfl rfl rfl ?_ ?_|refine iy rfl rfl rfl ?_ ?_)<;>(intro hc;try omega))|refine ny rfl rfl rfl Ll Ll ?_|refine xz rfl rfl Ll Ll Ll ?_)|refine bb rfl rfl ?_|refine bj (cs:=[AV.int _ _,AV.int _ _]) rfl rfl ?_|refine kV rfl Ll ?_)|(apply gx;first|apply af|refine ae rfl ?_|apply ay|apply aM|refine ak rfl ?_|refine ai rfl ?_)|apply aa|apply cp
   all_goals exact aJ (v:=kw [(192+r / 64)%256,(128+r%64)%256] true) rfl (by rw[show(192+r / 64)%256=192+r / 64 by omega,show(128+r%64)%256=128+r%64 by omega])
  by_cases c3:r<65536
  ·rw[ra Ll c3]
   repeat' first|apply ac|(apply gw;first|(apply gq0;first|refine aq rfl ?_|refine bl rfl ?_|refine aG rfl ?_)|(apply gq1;first|refine cf rfl ?_|refine cj rfl ?_)|(apply gq3;first|refine aT rfl rfl rfl Ll Ll ?_|((first|refine aA rfl rfl rfl ?_ ?_|refine kD rfl rfl rfl ?_ ?_|refine cN rfl rfl rfl ?_ ?_|refine iy rfl rfl rfl ?_ ?_)<;>(intro hc;try omega))|refine ny rfl rfl rfl Ll Ll ?_|refine xz rfl rfl Ll Ll Ll ?_)|(apply gq7;first|refine bi rfl rfl ?_|refine bb rfl rfl ?_)|refine bj rfl rfl ?_|refine kV rfl Ll ?_)|(apply gx;first|apply af|refine ae rfl ?_|apply ay|apply aM|refine ak rfl ?_|refine ai rfl ?_)|apply aa|apply cp
   all_goals exact aJ (v:=kw [(224+r / 4096)%256,(128+r / 64%64)%256,(128+r%64)%256] true) rfl (by rw[show(224+r / 4096)%256=224+r / 4096 by omega,show(128+r / 64%64)%256=128+r / 64%64 by omega,show(128+r%64)%256=128+r%64 by omega])
  ·rw[sB Ll]
   repeat' first|apply ac|(apply gw;first|(apply gq0;first|refine aq rfl ?_|refine bl rfl ?_|refine aG rfl ?_)|refine cj rfl ?_|(apply gq3;first|refine aT rfl rfl rfl Ll Ll ?_|((first|refine aA rfl rfl rfl ?_ ?_|refine kD rfl rfl rfl ?_ ?_|refine cN rfl rfl rfl ?_ ?_|refine iy rfl rfl rfl ?_ ?_)<;>(intro hc;try omega))|refine ny rfl rfl rfl Ll Ll ?_|refine xz rfl rfl Ll Ll Ll ?_)|(apply gq7;first|refine bi rfl rfl ?_|refine bb rfl rfl ?_)|refine bj (cs:=[AV.int _ _,AV.int _ _,AV.int _ _,AV.int _ _]) rfl rfl ?_|refine kV rfl Ll ?_)|(apply gx;first|apply af|refine ae rfl ?_|apply ay|apply aM|refine ai rfl ?_)|apply aa
   all_goals exact aJ (v:=kw [(240+r / 262144)%256,(128+r / 4096%64)%256,(128+r / 64%64)%256,(128+r%64)%256] true) rfl (by rw[show(240+r / 262144)%256=240+r / 262144 by omega,show(128+r / 4096%64)%256=128+r / 4096%64 by omega,show(128+r / 64%64)%256=128+r / 64%64 by omega,show(128+r%64)%256=128+r%64 by omega])
 ·have h:¬ (0≤r∧r≤1114111∧(r<55296∨57343<r)):=fun h=>hs (cx.2 h)
  unfold Fv
  rw[Ht hs]
  repeat' first|apply ac|(apply gw;first|(apply gq0;first|refine aq rfl ?_|refine bl rfl ?_|refine aG rfl ?_)|(apply gq1;first|refine cf rfl ?_|refine cj rfl ?_|refine yZ rfl ?_)|(apply gq3;first|((first|refine aA rfl rfl rfl ?_ ?_|refine kD rfl rfl rfl ?_ ?_|refine cN rfl rfl rfl ?_ ?_|refine iy rfl rfl rfl ?_ ?_)<;>(intro hc;try omega)))|(apply gq7;first|refine bi rfl rfl ?_|refine bb rfl rfl ?_))|(apply gx;first|apply af|refine ae rfl ?_|apply aM|refine ak rfl ?_)|apply aa|apply cp
  all_goals first
   | exact aJ (v:=kw [] true) rfl rfl
   | (exfalso;omega)
@[reducible] def u8 (x:Int):AV := .int .u8 x
end
section
open Go
set_option maxHeartbeats 4000000
attribute [local irreducible] az bf bm de bz cw dH bJ wop cz bc
@[reducible] def chV (c:Int×Int×Int):List AV:=[.int .i64 c.1,.int .i64 c.2.1,.int .i64 c.2.2]
@[simp] theorem Lb (l:List (Int×Int×Int)):AV.frozenL (l.flatMap chV)=true:=kg (fun r=>by simp[AV.frozenL,AV.frozen]) l
@[simp] theorem Kv (n:Nat)(l:List Int):AV.frozenL ((l.map (AV.int .u8)).drop n)=true:=by
 rw[← List.map_drop]
 exact eI (fun r=>by simp[AV.frozen]) _
@[simp] theorem Kq (n:Nat)(l:List Int):AV.frozenL ((l.map (AV.int .u8)).take n)=true:=by
 rw[← List.map_take]
 exact eI (fun r=>by simp[AV.frozen]) _
theorem IP (l:List Int)(k:Nat):sS l k≤(l.flatMap bt).length:=by
 unfold sS
 conv=>rhs;rw[← List.take_append_drop k l,List.flatMap_append,List.length_append]
 omega
end
end Go.Proofs.YtlnobeojgifojaaGreatDoor
