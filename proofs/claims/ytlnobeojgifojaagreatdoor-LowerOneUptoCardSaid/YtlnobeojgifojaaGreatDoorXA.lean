/- Plain: what the statements ask of a machine of bytes. The document's answer of scalars' bytes: Encode; Decode, Chars, First of scalars' bytes. The document's answer: Chars and First of scalars' bytes. -/
import Derived.Test.YtlnobeojgifojaaGreatDoorVF
import Derived.Test.YtlnobeojgifojaaGreatDoorWC
import Derived.Test.YtlnobeojgifojaaGreatDoorCF
set_option linter.unusedVariables false
set_option linter.unusedSimpArgs false
namespace Go.Proofs.YtlnobeojgifojaaGreatDoor
section
open Go
theorem xd {y x:PD}(hyo:y.Ok)(hx:ka y x)(hn:y.n≤9)(hs:(y.parts.map List.length).sum≤100):OkS x:=by
 have h1:=hx.most hyo (K:=3400) (fun i hi=>Nat.le_trans (pE y.parts (y.row i) hyo.norm) HT)
 have h2:y.n*3400≤9*3400:=Nat.mul_le_mul_right _ hn
 exact⟨hx.ok hyo,by omega⟩
def yC (r:Int):Dfa:=⟨⟨[⟨[⟨r,r⟩],true⟩],true⟩,⟨[⟨[1],true⟩,⟨[-1],true⟩],true⟩,⟨[-1,5],true⟩⟩
theorem B5 (r:Int):(yC r).Fits:=by
 refine⟨?_,?_,?_,?_,?_⟩<;>simp[yC,dA]
theorem Cf {r:Int}(h:eI r=true){y x:PD}(hy:dY (cF r) y)(hx:ka y x):x=eE (bG r):=by
 rw[pF h hy]at hx
 exact Fh h hx
theorem xC {r:Int}(h:eI r=true){x:PD}(hx:ka (cF r) x):OkS x:=by
 refine xd (pC h) hx ?_ ?_
 ·simp[cF,PD.n]
 ·simp[cF]
end
section
open Go
set_option maxHeartbeats 4000000
attribute [local irreducible] aj bc bj dn bz cn dz bL wop cq aU
def Ec (r:Int):List Int:=if eI r=true then bG r else []
theorem Ea {r:Int}(h:eI r=true):Ec r=bG r:=by unfold Ec;rw[if_pos h]
theorem Eb {r:Int}(h:¬ eI r=true):Ec r=[]:=by unfold Ec;rw[if_neg h]
@[reducible] def D9 (r:Int):AV:=iy (Ec r) true
theorem yu {Φ:Lib}(L:z4 Φ)(r:Int):ia Φ 245 [.int .i64 r] (D9 r):=by
 refine bb (fun _=>false) rfl L.f245 ?_
 by_cases hs:eI r=true
 ·have h:=er.1 hs
  have h0:=h.1
  have h1:=h.2.1
  have h2:=h.2.2
  unfold D9
  rw[Ea hs]
  by_cases c1:r<128
  ·rw[qo c1]
   repeat' first|apply ad|(apply gw;first|(apply gq0;first|refine aw rfl ?_|refine bV rfl ?_|refine bm rfl ?_)|(apply gq1;first|refine cI rfl ?_|refine cD rfl ?_)|(apply gq3;first|((first|refine aB rfl rfl rfl ?_ ?_|refine dS rfl rfl rfl ?_ ?_|refine jq rfl rfl rfl ?_ ?_)<;>(intro hc;try omega)))|refine bh rfl rfl ?_|refine bF (cs:=[AV.int _ _]) rfl rfl ?_|refine jJ rfl HT ?_)|(apply gx;first|apply af|refine ae rfl ?_|apply ay|apply aM|refine al rfl ?_|refine ah rfl ?_)|apply ac|apply cz
   all_goals exact aH (v:=iy [(r)%256] true) rfl (by rw[show(r)%256=r by omega])
  by_cases c2:r<2048
  ·rw[qn HT c2]
   repeat' first|apply ad|(apply gw;first|(apply gq0;first|refine aw rfl ?_|refine bV rfl ?_|refine bm rfl ?_)|(apply gq1;first|refine cI rfl ?_|refine cD rfl ?_)|(apply gq3;first|refine a8 rfl rfl rfl HT HT ?_|((first|refine aB rfl rfl rfl ?_ ?_|refine dS rfl rfl rfl ?_ ?_|refine jq rfl rfl rfl ?_ ?_)<;>(intro hc;try omega))|refine re rfl rfl rfl HT HT ?_|refine yd rfl rfl HT HT HT ?_)|refine bh rfl rfl ?_|refine bF (cs:=[AV.int _ _,AV.int _ _]) rfl rfl ?_|refine jJ rfl HT ?_)|(apply gx;first|apply af|refine ae rfl ?_|apply ay|apply aM|refine al rfl ?_|refine ah rfl ?_)|apply ac|apply cz
   all_goals exact aH (v:=iy [(192+r / 64)%256,(128+r%64)%256] true) rfl (by rw[show(192+r / 64)%256=192+r / 64 by omega,show(128+r%64)%256=128+r%64 by omega])
  by_cases c3:r<65536
  ·rw[pa HT c3]
   repeat' first|apply ad|(apply gw;first|(apply gq0;first|refine aw rfl ?_|refine bV rfl ?_|refine bm rfl ?_)|(apply gq1;first|refine cI rfl ?_|refine cD rfl ?_)|(apply gq3;first|refine a8 rfl rfl rfl HT HT ?_|((first|refine aB rfl rfl rfl ?_ ?_|refine kj rfl rfl rfl ?_ ?_|refine dS rfl rfl rfl ?_ ?_|refine jq rfl rfl rfl ?_ ?_)<;>(intro hc;try omega))|refine re rfl rfl rfl HT HT ?_|refine yd rfl rfl HT HT HT ?_)|(apply gq7;first|refine bU rfl rfl ?_|refine bh rfl rfl ?_)|refine bF rfl rfl ?_|refine jJ rfl HT ?_)|(apply gx;first|apply af|refine ae rfl ?_|apply ay|apply aM|refine al rfl ?_|refine ah rfl ?_)|apply ac|apply cz
   all_goals exact aH (v:=iy [(224+r / 4096)%256,(128+r / 64%64)%256,(128+r%64)%256] true) rfl (by rw[show(224+r / 4096)%256=224+r / 4096 by omega,show(128+r / 64%64)%256=128+r / 64%64 by omega,show(128+r%64)%256=128+r%64 by omega])
  ·rw[qm HT]
   repeat' first|apply ad|(apply gw;first|(apply gq0;first|refine aw rfl ?_|refine bV rfl ?_|refine bm rfl ?_)|refine cD rfl ?_|(apply gq3;first|refine a8 rfl rfl rfl HT HT ?_|((first|refine aB rfl rfl rfl ?_ ?_|refine kj rfl rfl rfl ?_ ?_|refine dS rfl rfl rfl ?_ ?_|refine jq rfl rfl rfl ?_ ?_)<;>(intro hc;try omega))|refine re rfl rfl rfl HT HT ?_|refine yd rfl rfl HT HT HT ?_)|(apply gq7;first|refine bU rfl rfl ?_|refine bh rfl rfl ?_)|refine bF (cs:=[AV.int _ _,AV.int _ _,AV.int _ _,AV.int _ _]) rfl rfl ?_|refine jJ rfl HT ?_)|(apply gx;first|apply af|refine ae rfl ?_|apply ay|apply aM|refine ah rfl ?_)|apply ac
   all_goals exact aH (v:=iy [(240+r / 262144)%256,(128+r / 4096%64)%256,(128+r / 64%64)%256,(128+r%64)%256] true) rfl (by rw[show(240+r / 262144)%256=240+r / 262144 by omega,show(128+r / 4096%64)%256=128+r / 4096%64 by omega,show(128+r / 64%64)%256=128+r / 64%64 by omega,show(128+r%64)%256=128+r%64 by omega])
 ·have h:¬ (0≤r∧r≤1114111∧(r<55296∨57343<r)):=fun h=>hs (er.2 h)
  unfold D9
  rw[Eb hs]
  repeat' first|apply ad|(apply gw;first|(apply gq0;first|refine aw rfl ?_|refine bV rfl ?_|refine bm rfl ?_)|(apply gq1;first|refine cI rfl ?_|refine cD rfl ?_|refine CZ rfl ?_)|(apply gq3;first|((first|refine aB rfl rfl rfl ?_ ?_|refine kj rfl rfl rfl ?_ ?_|refine dS rfl rfl rfl ?_ ?_|refine jq rfl rfl rfl ?_ ?_)<;>(intro hc;try omega)))|(apply gq7;first|refine bU rfl rfl ?_|refine bh rfl rfl ?_))|(apply gx;first|apply af|refine ae rfl ?_|apply aM|refine al rfl ?_)|apply ac|apply cz
  all_goals first
   | exact aH (v:=iy [] true) rfl rfl
   | (exfalso;omega)
@[reducible] def u8 (x:Int):AV := .int .u8 x
end
section
open Go
set_option maxHeartbeats 4000000
theorem wt {F:bR}{r:List bA}{Q:Env→aa→Prop}{env:Env}{h:aa}{d:Nat}{x y:bl}{s:List Int}{fl:Bool}{kk:IntKind}{n:Int}{m:Nat}(hx:ev env x=iy s fl)(hy:ev env y = .int kk n)(hn:n=m)(hm:m≤s.length)(k:∀ fl',aj F r Q (env.put d (iy (s.take m) fl')) h):aj F (⟨some d,.slice 1 x none (some y) none,none⟩::r) Q env h:=by
 subst hn
 refine dV rfl (v:=iy (s.take m) (fl&&decide (((m:Nat):Int)=s.length))) ?_ (k _)
 simp only[aF,hx,d4,hy,Option.bind_some]
 rw[if_pos ⟨by omega,by omega,by omega,trivial,by rw[List.length_map];omega⟩]
 rw[show(((m:Nat):Int)-0).toNat=m by omega,Nat.mul_one,show(0:Int).toNat*1=0 by rfl,List.drop_zero,← List.map_take]
 simp[List.length_take,hm]
attribute [local irreducible] aj bc bj dn bz cn dz bL wop cq aU
@[reducible] def chV (c:Int×Int×Int):List AV:=[.int .i64 c.1,.int .i64 c.2.1,.int .i64 c.2.2]
@[simp] theorem HM (l:List (Int×Int×Int)):AV.frozenL (l.flatMap chV)=true:=jh (fun r=>by simp[AV.frozenL,AV.frozen]) l
@[simp] theorem G5 (n:Nat)(l:List Int):AV.frozenL ((l.map (AV.int .u8)).drop n)=true:=by
 rw[← List.map_drop]
 exact dQ (fun r=>by simp[AV.frozen]) _
@[simp] theorem G0 (n:Nat)(l:List Int):AV.frozenL ((l.map (AV.int .u8)).take n)=true:=by
 rw[← List.map_take]
 exact dQ (fun r=>by simp[AV.frozen]) _
end
end Go.Proofs.YtlnobeojgifojaaGreatDoor
