/- Plain: what the statements ask of a machine of bytes. The document's answer of scalars' bytes: Encode; Decode, Chars, First of scalars' bytes. The document's answer: Chars and First of scalars' bytes. -/
import Derived.Test.YtlnobeojgifojaaGreatDoorVF
import Derived.Test.YtlnobeojgifojaaGreatDoorWC
import Derived.Test.YtlnobeojgifojaaGreatDoorCF
set_option linter.unusedVariables false
set_option linter.unusedSimpArgs false
namespace Go.Proofs.YtlnobeojgifojaaGreatDoor
section
open Go
theorem E8 {d y x:PD}(hd:d.Ok)(hy:eC d y)(hx:jA y x){b:List Int}(hb:∀ c∈b,0≤c∧c<256):∃ (k:Nat) (l:List Int),(lr x 0 b 0 (0,-1)).1=k∧k≤b.length∧b.take k=l.flatMap br∧∀ z∈l,cv z=true:=by
 have hyo:=hy.ok hd
 rw[hx.run hyo hb]
 rcases Cy hyo b.length b (Nat.le_refl _) 0 hyo.zero 0 (0,-1) with e|⟨k,l,t,e,h1,h2,h3⟩
 ·rw[e]
  exact⟨0,[],rfl,by omega,rfl,fun z hz=>by cases hz⟩
 ·rw[e]
  exact⟨k,l,by simp only;omega,h1,h2,h3⟩
theorem sg {y x:PD}(hyo:y.Ok)(hx:jA y x)(hn:y.n≤9)(hs:(y.parts.map List.length).sum≤100):OkS x:=by
 have h1:=hx.most hyo (K:=3400) (fun i hi=>Nat.le_trans (rE y.parts (y.row i) hyo.norm) (by omega))
 have h2:y.n*3400≤9*3400:=Nat.mul_le_mul_right _ hn
 exact⟨hx.ok hyo,by omega⟩
def AZ (r:Int):Dfa:=⟨⟨[⟨[⟨r,r⟩],true⟩],true⟩,⟨[⟨[1],true⟩,⟨[-1],true⟩],true⟩,⟨[-1,5],true⟩⟩
theorem EY (r:Int):(AZ r).Fits:=by
 refine⟨?_,?_,?_,?_,?_⟩<;>simp[AZ,cT]
theorem E7 {r:Int}(h:cv r=true){y x:PD}(hy:eC (cX r) y)(hx:jA y x):x=g9 (br r):=by
 rw[rF h hy]at hx
 exact Ij h hx
theorem z9 {r:Int}(h:cv r=true){x:PD}(hx:jA (cX r) x):OkS x:=by
 refine sg (rB h) hx ?_ ?_
 ·simp[cX,PD.n]
 ·simp[cX]
end
section
open Go
set_option maxHeartbeats 4000000
attribute [local irreducible] aw bg bm dg bz cw dO bH wop cz a8
@[reducible] def u8 (x:Int):AV := .int .u8 x
theorem qF {Φ:Lib}(L:sE Φ)(a:Int)(n:Int)(ha:(n=1∧0≤a∧a<128)∨(n=2∧194≤a∧a≤223)∨(n=3∧224≤a∧a≤239)∨(n=4∧240≤a∧a≤244)):fg Φ 224 [.int .u8 a] (.int .i64 n):=by
 refine aY (fun _=>false) rfl L.f224 ?_
 rcases ha with⟨rfl,h1,h2⟩|⟨rfl,h1,h2⟩|⟨rfl,h1,h2⟩|⟨rfl,h1,h2⟩
 ·repeat' first|apply ad|(apply gw;first|(apply gq0;first|refine am rfl ?_|refine bj rfl ?_)|(refine aA rfl rfl rfl ?_ ?_<;>(intro hc;try (exfalso;omega))))|(apply gx;first|apply af|refine ae rfl ?_|apply al|apply aJ|refine ak rfl ?_)|apply aa|apply cu|apply fT
  exact aH (v := .int .i64 1) rfl rfl
 ·repeat' first|apply ad|(apply gw;first|(apply gq0;first|refine am rfl ?_|refine bj rfl ?_)|refine bP rfl ?_|(apply gq3;first|(refine aA rfl rfl rfl ?_ ?_<;>(intro hc;try (exfalso;omega)))|(refine ix rfl rfl rfl ?_ ?_<;>(intro hc;try (exfalso;omega)))|(refine fp rfl rfl rfl ?_ ?_<;>(intro hc;try (exfalso;omega))))|refine aZ rfl rfl ?_)|(apply gx;first|apply af|refine ae rfl ?_|apply al|apply aJ|refine ak rfl ?_|refine ah rfl ?_)|apply aa|apply cu|apply fT
  exact aH (v := .int .i64 2) rfl rfl
 ·repeat' first|apply ad|(apply gw;first|(apply gq0;first|refine am rfl ?_|refine bj rfl ?_)|refine bP rfl ?_|(apply gq3;first|(refine aA rfl rfl rfl ?_ ?_<;>(intro hc;try (exfalso;omega)))|(refine ix rfl rfl rfl ?_ ?_<;>(intro hc;try (exfalso;omega)))|(refine fp rfl rfl rfl ?_ ?_<;>(intro hc;try (exfalso;omega))))|refine aZ rfl rfl ?_)|(apply gx;first|apply af|refine ae rfl ?_|apply al|apply aJ|refine ak rfl ?_|refine ah rfl ?_)|apply aa|apply cu|apply fT
  exact aH (v := .int .i64 3) rfl rfl
 ·repeat' first|apply ad|(apply gw;first|(apply gq0;first|refine am rfl ?_|refine bj rfl ?_)|refine bP rfl ?_|(apply gq3;first|(refine aA rfl rfl rfl ?_ ?_<;>(intro hc;try (exfalso;omega)))|(refine ix rfl rfl rfl ?_ ?_<;>(intro hc;try (exfalso;omega)))|(refine fp rfl rfl rfl ?_ ?_<;>(intro hc;try (exfalso;omega))))|refine aZ rfl rfl ?_)|(apply gx;first|apply af|refine ae rfl ?_|apply al|apply aJ|refine ak rfl ?_|refine ah rfl ?_)|apply aa|apply cu|apply fT
  exact aH (v := .int .i64 4) rfl rfl
theorem pQ {Φ:Lib}(L:sE Φ)(a b:Int)(hb:128≤b∧b≤191)(h1:a=224→160≤b)(h2:a=237→b≤159)(h3:a=240→144≤b)(h4:a=244→b≤143):fg Φ 225 [.int .u8 a,.int .u8 b] (.bool true):=by
 have hb1:=hb.1
 have hb2:=hb.2
 refine aY (fun _=>false) rfl L.f225 ?_
 by_cases c1:a=224
 ·subst c1
  have:=h1 rfl
  repeat' first|apply ad|(apply gw;first|(apply gq0;first|refine am rfl ?_|refine bj rfl ?_)|refine bP rfl ?_|(apply gq3;first|(refine ix rfl rfl rfl ?_ ?_<;>(intro hc;try (exfalso;omega)))|(refine fp rfl rfl rfl ?_ ?_<;>(intro hc;try (exfalso;omega)))|(refine cq rfl rfl rfl ?_ ?_<;>(intro hc;try (exfalso;omega))))|refine aZ rfl rfl ?_)|(apply gx;first|apply af|refine ae rfl ?_|apply al|apply aJ|refine ak rfl ?_)|apply aa|apply cu|apply fT
  all_goals exact aH (v := .bool true) rfl rfl
 by_cases c2:a=237
 ·subst c2
  have:=h2 rfl
  repeat' first|apply ad|(apply gw;first|(apply gq0;first|refine am rfl ?_|refine bj rfl ?_)|refine bP rfl ?_|(apply gq3;first|(refine ix rfl rfl rfl ?_ ?_<;>(intro hc;try (exfalso;omega)))|(refine fp rfl rfl rfl ?_ ?_<;>(intro hc;try (exfalso;omega)))|(refine cq rfl rfl rfl ?_ ?_<;>(intro hc;try (exfalso;omega))))|refine aZ rfl rfl ?_)|(apply gx;first|apply af|refine ae rfl ?_|apply al|apply aJ|refine ak rfl ?_|refine ah rfl ?_)|apply aa|apply cu|apply fT
  all_goals exact aH (v := .bool true) rfl rfl
 by_cases c3:a=240
 ·subst c3
  have:=h3 rfl
  repeat' first|apply ad|(apply gw;first|(apply gq0;first|refine am rfl ?_|refine bj rfl ?_)|refine bP rfl ?_|(apply gq3;first|(refine ix rfl rfl rfl ?_ ?_<;>(intro hc;try (exfalso;omega)))|(refine fp rfl rfl rfl ?_ ?_<;>(intro hc;try (exfalso;omega)))|(refine cq rfl rfl rfl ?_ ?_<;>(intro hc;try (exfalso;omega))))|refine aZ rfl rfl ?_)|(apply gx;first|apply af|refine ae rfl ?_|apply al|apply aJ|refine ak rfl ?_|refine ah rfl ?_)|apply aa|apply cu|apply fT
  all_goals exact aH (v := .bool true) rfl rfl
 by_cases c4:a=244
 ·subst c4
  have:=h4 rfl
  repeat' first|apply ad|(apply gw;first|(apply gq0;first|refine am rfl ?_|refine bj rfl ?_)|refine bP rfl ?_|(apply gq3;first|(refine ix rfl rfl rfl ?_ ?_<;>(intro hc;try (exfalso;omega)))|(refine fp rfl rfl rfl ?_ ?_<;>(intro hc;try (exfalso;omega)))|(refine cq rfl rfl rfl ?_ ?_<;>(intro hc;try (exfalso;omega))))|refine aZ rfl rfl ?_)|(apply gx;first|apply af|refine ae rfl ?_|apply al|apply aJ|refine ak rfl ?_|refine ah rfl ?_)|apply aa|apply cu|apply fT
  all_goals exact aH (v := .bool true) rfl rfl
 repeat' first|apply ad|(apply gw;first|(apply gq0;first|refine am rfl ?_|refine bj rfl ?_)|refine bP rfl ?_|(apply gq3;first|(refine ix rfl rfl rfl ?_ ?_<;>(intro hc;try (exfalso;omega)))|(refine fp rfl rfl rfl ?_ ?_<;>(intro hc;try (exfalso;omega)))|(refine cq rfl rfl rfl ?_ ?_<;>(intro hc;try (exfalso;omega))))|refine aZ rfl rfl ?_)|(apply gx;first|apply af|refine ae rfl ?_|apply ay|apply al|apply aJ|refine ah rfl ?_)|apply aa|apply aF
 all_goals exact aH (v := .bool true) rfl rfl
theorem Ia {Φ:Lib}(L:sE Φ)(x:Int)(hs:cv x=true)(rest:List Int)(hr:rest.length≤1048576)(fl:Bool):fg Φ 221 [jk (br x++rest) fl] (.tup [.int .i64 x,.int .i64 (br x).length]):=by
 have h:=cx.1 hs
 have h0:=h.1
 have h1:=h.2.1
 have h2:=h.2.2
 refine aY (fun _=>false) rfl L.f221 ?_
 by_cases c1:x<128
 ·rw[ss c1]
  have hl:([x]++rest).length=rest.length+1:=by simp
  have g0:([x]++rest)[0]?=some x:=rfl
  have k1:=qF L x 1 (by omega)
  generalize [x]++rest=s at hl g0 ⊢
  repeat' first|apply ad|(apply gw;first|(apply gq0;first|refine am rfl ?_|refine aG rfl ?_)|refine aB rfl b_ pv_ ?_|(refine cq rfl rfl rfl ?_ ?_<;>(intro hc;try (exfalso;omega)))|refine aj rfl rfl g0 (by omega) rfl ?_|refine az rfl ?_|refine aI rfl nt_ ?_|refine gL rfl (by omega) (by omega) ?_)|(apply gx;first|apply af|refine ae rfl ?_|apply ay|apply aJ|refine ak rfl ?_|refine ah rfl ?_)|apply aa|apply cu|refine aU (by assumption) fz_ fz_ ?_
  exact aH (v := .tup [.int .i64 x,.int .i64 1]) rfl rfl
 by_cases c2:x<2048
 ·rw[sr (by omega) c2]
  have hl:([192+x / 64,128+x%64]++rest).length=rest.length+2:=by simp
  have g0:([192+x / 64,128+x%64]++rest)[0]?=some (192+x / 64):=rfl
  have g1:([192+x / 64,128+x%64]++rest)[1]?=some (128+x%64):=rfl
  have k1:=qF L (192+x / 64) 2 (by omega)
  have k2:=pQ L (192+x / 64) (128+x%64) (by omega) (by omega) (by omega) (by omega) (by omega)
  generalize [192+x / 64,128+x%64]++rest=s at hl g0 g1 ⊢
  obtain⟨q,q0,q1⟩:∃ q:Nat→Int,q 0=x / 64∧q 1=x:=⟨fun j=>if j=0 then x / 64 else x,rfl,rfl⟩
  repeat' first|apply ad|(apply gw;first|(apply gq0;first|refine am rfl ?_|refine aG rfl ?_)|refine aB rfl b_ pv_ ?_|(apply gq3;first|refine eS rfl rfl rfl (by omega) (by omega) ?_|(refine cq rfl rfl rfl ?_ ?_<;>(intro hc;try (exfalso;omega))))|(apply gq5;first|refine aj rfl rfl g0 (by omega) rfl ?_|refine ji (cs':=[_]) rfl rfl (by omega) (by omega) rfl ?_)|refine az rfl ?_|refine aI rfl nt_ ?_|refine bk rfl rfl ?_|refine gL rfl (by omega) (by omega) ?_)|(apply gx;first|apply af|refine ae rfl ?_|apply ay|apply al|refine ah rfl ?_)|apply aa|refine aU (by assumption) fz_ fz_ ?_
  refine bG 1 (fun j env h'=>env.has [(0,jk s fl),(4,.int .i64 2),(5,.int .i64 (q j)),(6,.int .i64 (j+1))]) (by rw[show q 0=192+x / 64-192 by omega];exact hh_) ?_
  rintro j env h' hj he
  by_cases hj2:j<1
  ·have hj3:=hj2
   obtain⟨env,rfl⟩:=he.ex
   clear he
   obtain rfl:j=0:=by omega
   repeat' first|apply ad|(apply gw;first|(apply gq0;first|refine am rfl ?_|refine bj rfl ?_|refine aG rfl ?_)|refine bP rfl ?_|refine aB rfl b_ pv_ ?_|(apply gq3;first|refine aQ rfl rfl rfl (by omega) (by omega) ?_|refine eS rfl rfl rfl (by omega) (by omega) ?_|(refine aA rfl rfl rfl ?_ ?_<;>(intro hc;try (exfalso;omega)))|(refine cY rfl rfl rfl ?_ ?_<;>(intro hc;try (exfalso;omega)))|(refine fp rfl rfl rfl ?_ ?_<;>(intro hc;try (exfalso;omega)))|(refine cq rfl rfl rfl ?_ ?_<;>(intro hc;try (exfalso;omega)))|refine nn rfl rfl rfl (by omega) (by omega) ?_)|(apply gq5;first|refine aj rfl rfl g0 (by omega) rfl ?_|refine aj rfl rfl g1 (by omega) rfl ?_)|refine az rfl ?_|(apply gq7;first|refine aZ rfl rfl ?_|refine bc rfl rfl ?_)|refine aI rfl nt_ ?_|refine dp (b:=true) rfl ?_|refine gL rfl (by omega) (by omega) ?_)|(apply gx;first|apply af|refine ae rfl ?_|apply ay|apply al|refine ak rfl ?_|refine ah rfl ?_)|apply aa|apply aF|refine aU (by assumption) fz_ fz_ ?_
   refine aP hj2 ?_
   rw[show q (0+1)=64*q 0+(128+x%64)-128 by simp only[q0,q1];omega]
   exact hh_
  ·obtain rfl:j=1:=by omega
   rw[q1]at he
   obtain⟨env,rfl⟩:=he.ex
   clear he
   repeat' first|apply ad|(apply gw;first|refine am rfl ?_|(refine aA rfl rfl rfl ?_ ?_<;>(intro hc;try (exfalso;omega))))|(apply gx;first|apply af|refine ae rfl ?_|apply aJ|apply aL|refine ah rfl ?_)|apply aa|apply aM|apply aN|apply aR
   exact aH (v := .tup [.int .i64 x,.int .i64 2]) rfl rfl
 by_cases c3:x<65536
 ·rw[qV (by omega) c3]
  have hl:([224+x / 4096,128+x / 64%64,128+x%64]++rest).length=rest.length+3:=by simp
  have g0:([224+x / 4096,128+x / 64%64,128+x%64]++rest)[0]?=some (224+x / 4096):=rfl
  have g1:([224+x / 4096,128+x / 64%64,128+x%64]++rest)[1]?=some (128+x / 64%64):=rfl
  have g2:([224+x / 4096,128+x / 64%64,128+x%64]++rest)[2]?=some (128+x%64):=rfl
  have k1:=qF L (224+x / 4096) 3 (by omega)
  have k2:=pQ L (224+x / 4096) (128+x / 64%64) (by omega) (by omega) (by omega) (by omega) (by omega)
  generalize [224+x / 4096,128+x / 64%64,128+x%64]++rest=s at hl g0 g1 g2 ⊢
  obtain⟨q,q0,q1,q2⟩:∃ q:Nat→Int,q 0=x / 4096∧q 1=x / 64∧q 2=x:=⟨fun j=>if j=0 then x / 4096 else if j=1 then x / 64 else x,rfl,rfl,rfl⟩
  repeat' first|apply ad|(apply gw;first|(apply gq0;first|refine am rfl ?_|refine aG rfl ?_)|refine aB rfl b_ pv_ ?_|(apply gq3;first|refine eS rfl rfl rfl (by omega) (by omega) ?_|(refine cq rfl rfl rfl ?_ ?_<;>(intro hc;try (exfalso;omega))))|(apply gq5;first|refine aj rfl rfl g0 (by omega) rfl ?_|refine ji (cs':=[_]) rfl rfl (by omega) (by omega) rfl ?_)|refine az rfl ?_|refine aI rfl nt_ ?_|refine bk rfl rfl ?_|refine gL rfl (by omega) (by omega) ?_)|(apply gx;first|apply af|refine ae rfl ?_|apply ay|apply al|refine ah rfl ?_)|apply aa|refine aU (by assumption) fz_ fz_ ?_
  refine bG 2 (fun j env h'=>env.has [(0,jk s fl),(4,.int .i64 3),(5,.int .i64 (q j)),(6,.int .i64 (j+1))]) (by rw[show q 0=224+x / 4096-224 by omega];exact hh_) ?_
  rintro j env h' hj he
  by_cases hj2:j<2
  ·have hj3:=hj2
   obtain⟨env,rfl⟩:=he.ex
   clear he
   rcases (show j=0∨j=1 by omega) with rfl|rfl
   ·repeat' first|apply ad|(apply gw;first|(apply gq0;first|refine am rfl ?_|refine bj rfl ?_|refine aG rfl ?_)|refine bP rfl ?_|refine aB rfl b_ pv_ ?_|(apply gq3;first|refine aQ rfl rfl rfl (by omega) (by omega) ?_|refine eS rfl rfl rfl (by omega) (by omega) ?_|(refine aA rfl rfl rfl ?_ ?_<;>(intro hc;try (exfalso;omega)))|(refine cY rfl rfl rfl ?_ ?_<;>(intro hc;try (exfalso;omega)))|(refine fp rfl rfl rfl ?_ ?_<;>(intro hc;try (exfalso;omega)))|(refine cq rfl rfl rfl ?_ ?_<;>(intro hc;try (exfalso;omega)))|refine nn rfl rfl rfl (by omega) (by omega) ?_)|(apply gq5;first|refine aj rfl rfl g0 (by omega) rfl ?_|refine aj rfl rfl g1 (by omega) rfl ?_)|refine az rfl ?_|(apply gq7;first|refine aZ rfl rfl ?_|refine bc rfl rfl ?_)|refine aI rfl nt_ ?_|refine dp (b:=true) rfl ?_|refine gL rfl (by omega) (by omega) ?_)|(apply gx;first|apply af|refine ae rfl ?_|apply ay|apply al|refine ak rfl ?_|refine ah rfl ?_)|apply aa|apply aF|refine aU (by assumption) fz_ fz_ ?_
    refine aP hj2 ?_
    rw[show q (0+1)=64*q 0+(128+x / 64%64)-128 by simp only[q0,q1];omega]
    exact hh_
   ·repeat' first|apply ad|(apply gw;first|(apply gq0;first|refine am rfl ?_|refine bj rfl ?_|refine aG rfl ?_)|(apply gq1;first|refine cr rfl ?_|refine bP rfl ?_)|refine aB rfl b_ pv_ ?_|(apply gq3;first|refine aQ rfl rfl rfl (by omega) (by omega) ?_|refine eS rfl rfl rfl (by omega) (by omega) ?_|(refine aA rfl rfl rfl ?_ ?_<;>(intro hc;try (exfalso;omega)))|(refine cY rfl rfl rfl ?_ ?_<;>(intro hc;try (exfalso;omega)))|(refine fp rfl rfl rfl ?_ ?_<;>(intro hc;try (exfalso;omega)))|(refine cq rfl rfl rfl ?_ ?_<;>(intro hc;try (exfalso;omega)))|refine nn rfl rfl rfl (by omega) (by omega) ?_)|refine aj rfl rfl g2 (by omega) rfl ?_|refine az rfl ?_|refine bc rfl rfl ?_|refine gL rfl (by omega) (by omega) ?_)|(apply gx;first|apply af|refine ae rfl ?_|apply ay|apply al|refine ak rfl ?_|refine ah rfl ?_)|apply aa|apply aF
    refine aP hj2 ?_
    rw[show q (1+1)=64*q 1+(128+x%64)-128 by simp only[q1,q2];omega]
    exact hh_
  ·obtain rfl:j=2:=by omega
   rw[q2]at he
   obtain⟨env,rfl⟩:=he.ex
   clear he
   repeat' first|apply ad|(apply gw;first|refine am rfl ?_|(refine aA rfl rfl rfl ?_ ?_<;>(intro hc;try (exfalso;omega))))|(apply gx;first|apply af|refine ae rfl ?_|apply aJ|apply aL|refine ah rfl ?_)|apply aa|apply aM|apply aN|apply aR
   exact aH (v := .tup [.int .i64 x,.int .i64 3]) rfl rfl
 rw[sq (by omega)]
 have hl:([240+x / 262144,128+x / 4096%64,128+x / 64%64,128+x%64]++rest).length=rest.length+4:=by simp
 have g0:([240+x / 262144,128+x / 4096%64,128+x / 64%64,128+x%64]++rest)[0]?=some (240+x / 262144):=rfl
 have g1:([240+x / 262144,128+x / 4096%64,128+x / 64%64,128+x%64]++rest)[1]?=some (128+x / 4096%64):=rfl
 have g2:([240+x / 262144,128+x / 4096%64,128+x / 64%64,128+x%64]++rest)[2]?=some (128+x / 64%64):=rfl
 have g3:([240+x / 262144,128+x / 4096%64,128+x / 64%64,128+x%64]++rest)[3]?=some (128+x%64):=rfl
 have k1:=qF L (240+x / 262144) 4 (by omega)
 have k2:=pQ L (240+x / 262144) (128+x / 4096%64) (by omega) (by omega) (by omega) (by omega) (by omega)
 generalize [240+x / 262144,128+x / 4096%64,128+x / 64%64,128+x%64]++rest=s at hl g0 g1 g2 g3 ⊢
 obtain⟨q,q0,q1,q2,q3⟩:∃ q:Nat→Int,q 0=x / 262144∧q 1=x / 4096∧q 2=x / 64∧q 3=x:=⟨fun j=>if j=0 then x / 262144 else if j=1 then x / 4096 else if j=2 then x / 64 else x,rfl,rfl,rfl,rfl⟩
 repeat' first|apply ad|(apply gw;first|(apply gq0;first|refine am rfl ?_|refine aG rfl ?_)|refine aB rfl b_ pv_ ?_|(apply gq3;first|refine eS rfl rfl rfl (by omega) (by omega) ?_|(refine cq rfl rfl rfl ?_ ?_<;>(intro hc;try (exfalso;omega))))|(apply gq5;first|refine aj rfl rfl g0 (by omega) rfl ?_|refine ji (cs':=[_]) rfl rfl (by omega) (by omega) rfl ?_)|refine az rfl ?_|refine aI rfl nt_ ?_|refine bk rfl rfl ?_|refine gL rfl (by omega) (by omega) ?_)|(apply gx;first|apply af|refine ae rfl ?_|apply ay|apply al|refine ah rfl ?_)|apply aa|refine aU (by assumption) fz_ fz_ ?_
 refine bG 3 (fun j env h'=>env.has [(0,jk s fl),(4,.int .i64 4),(5,.int .i64 (q j)),(6,.int .i64 (j+1))]) (by rw[show q 0=240+x / 262144-240 by omega];exact hh_) ?_
 rintro j env h' hj he
 by_cases hj2:j<3
 ·have hj3:=hj2
  obtain⟨env,rfl⟩:=he.ex
  clear he
  rcases (show j=0∨j=1∨j=2 by omega) with rfl|rfl|rfl
  ·repeat' first|apply ad|(apply gw;first|(apply gq0;first|refine am rfl ?_|refine bj rfl ?_|refine aG rfl ?_)|refine bP rfl ?_|refine aB rfl b_ pv_ ?_|(apply gq3;first|refine aQ rfl rfl rfl (by omega) (by omega) ?_|refine eS rfl rfl rfl (by omega) (by omega) ?_|(refine aA rfl rfl rfl ?_ ?_<;>(intro hc;try (exfalso;omega)))|(refine cY rfl rfl rfl ?_ ?_<;>(intro hc;try (exfalso;omega)))|(refine fp rfl rfl rfl ?_ ?_<;>(intro hc;try (exfalso;omega)))|(refine cq rfl rfl rfl ?_ ?_<;>(intro hc;try (exfalso;omega)))|refine nn rfl rfl rfl (by omega) (by omega) ?_)|(apply gq5;first|refine aj rfl rfl g0 (by omega) rfl ?_|refine aj rfl rfl g1 (by omega) rfl ?_)|refine az rfl ?_|(apply gq7;first|refine aZ rfl rfl ?_|refine bc rfl rfl ?_)|refine aI rfl nt_ ?_|refine dp (b:=true) rfl ?_|refine gL rfl (by omega) (by omega) ?_)|(apply gx;first|apply af|refine ae rfl ?_|apply ay|apply al|refine ak rfl ?_|refine ah rfl ?_)|apply aa|apply aF|refine aU (by assumption) fz_ fz_ ?_
   refine aP hj2 ?_
   rw[show q (0+1)=64*q 0+(128+x / 4096%64)-128 by simp only[q0,q1];omega]
   exact hh_
  ·repeat' first|apply ad|(apply gw;first|(apply gq0;first|refine am rfl ?_|refine bj rfl ?_|refine aG rfl ?_)|(apply gq1;first|refine cr rfl ?_|refine bP rfl ?_)|refine aB rfl b_ pv_ ?_|(apply gq3;first|refine aQ rfl rfl rfl (by omega) (by omega) ?_|refine eS rfl rfl rfl (by omega) (by omega) ?_|(refine aA rfl rfl rfl ?_ ?_<;>(intro hc;try (exfalso;omega)))|(refine cY rfl rfl rfl ?_ ?_<;>(intro hc;try (exfalso;omega)))|(refine fp rfl rfl rfl ?_ ?_<;>(intro hc;try (exfalso;omega)))|(refine cq rfl rfl rfl ?_ ?_<;>(intro hc;try (exfalso;omega)))|refine nn rfl rfl rfl (by omega) (by omega) ?_)|refine aj rfl rfl g2 (by omega) rfl ?_|refine az rfl ?_|refine bc rfl rfl ?_|refine gL rfl (by omega) (by omega) ?_)|(apply gx;first|apply af|refine ae rfl ?_|apply ay|apply al|refine ak rfl ?_|refine ah rfl ?_)|apply aa|apply aF
   refine aP hj2 ?_
   rw[show q (1+1)=64*q 1+(128+x / 64%64)-128 by simp only[q1,q2];omega]
   exact hh_
  ·repeat' first|apply ad|(apply gw;first|(apply gq0;first|refine am rfl ?_|refine bj rfl ?_|refine aG rfl ?_)|(apply gq1;first|refine cr rfl ?_|refine bP rfl ?_)|refine aB rfl b_ pv_ ?_|(apply gq3;first|refine aQ rfl rfl rfl (by omega) (by omega) ?_|refine eS rfl rfl rfl (by omega) (by omega) ?_|(refine aA rfl rfl rfl ?_ ?_<;>(intro hc;try (exfalso;omega)))|(refine cY rfl rfl rfl ?_ ?_<;>(intro hc;try (exfalso;omega)))|(refine fp rfl rfl rfl ?_ ?_<;>(intro hc;try (exfalso;omega)))|(refine cq rfl rfl rfl ?_ ?_<;>(intro hc;try (exfalso;omega)))|refine nn rfl rfl rfl (by omega) (by omega) ?_)|refine aj rfl rfl g3 (by omega) rfl ?_|refine az rfl ?_|refine bc rfl rfl ?_|refine gL rfl (by omega) (by omega) ?_)|(apply gx;first|apply af|refine ae rfl ?_|apply ay|apply al|refine ak rfl ?_|refine ah rfl ?_)|apply aa|apply aF
   refine aP hj2 ?_
   rw[show q (2+1)=64*q 2+(128+x%64)-128 by simp only[q2,q3];omega]
   exact hh_
 ·obtain rfl:j=3:=by omega
  rw[q3]at he
  obtain⟨env,rfl⟩:=he.ex
  clear he
  repeat' first|apply ad|(apply gw;first|refine am rfl ?_|(refine aA rfl rfl rfl ?_ ?_<;>(intro hc;try (exfalso;omega))))|(apply gx;first|apply af|refine ae rfl ?_|apply aJ|apply aL|refine ah rfl ?_)|apply aa|apply aM|apply aN|apply aR
  exact aH (v := .tup [.int .i64 x,.int .i64 4]) rfl rfl
end
section
open Go
set_option maxHeartbeats 4000000
theorem yN {F:bT}{r:List bF}{Q:Env→ac→Prop}{env:Env}{h:ac}{d:Nat}{x y:bt}{s:List Int}{fl:Bool}{kk:IntKind}{n:Int}{m:Nat}(hx:ev env x=jk s fl)(hy:ev env y = .int kk n)(hn:n=m)(hm:m≤s.length)(k:∀ fl',aw F r Q (env.put d (jk (s.take m) fl')) h):aw F (⟨some d,.slice 1 x none (some y) none,none⟩::r) Q env h:=by
 subst hn
 refine eJ rfl (v:=jk (s.take m) (fl&&decide (((m:Nat):Int)=s.length))) ?_ (k _)
 simp only[aT,hx,eP,hy,Option.bind_some]
 rw[if_pos ⟨by omega,by omega,by omega,trivial,by rw[List.length_map];omega⟩]
 rw[show(((m:Nat):Int)-0).toNat=m by omega,Nat.mul_one,show(0:Int).toNat*1=0 by rfl,List.drop_zero,← List.map_take]
 simp[List.length_take,hm]
attribute [local irreducible] aw bg bm dg bz cw dO bH wop cz a8
@[reducible] def chV (c:Int×Int×Int):List AV:=[.int .i64 c.1,.int .i64 c.2.1,.int .i64 c.2.2]
@[simp] theorem KY (l:List (Int×Int×Int)):AV.frozenL (l.flatMap chV)=true:=j9 (fun r=>by simp[AV.frozenL,AV.frozen]) l
@[simp] theorem Ki (n:Nat)(l:List Int):AV.frozenL ((l.map (AV.int .u8)).drop n)=true:=by
 rw[← List.map_drop]
 exact eF (fun r=>by simp[AV.frozen]) _
@[simp] theorem Kd (n:Nat)(l:List Int):AV.frozenL ((l.map (AV.int .u8)).take n)=true:=by
 rw[← List.map_take]
 exact eF (fun r=>by simp[AV.frozen]) _
def jL (l:List Int)(k:Nat):List (Int×Int×Int):=(List.range k).map fun j=>(l.getD j 0,((sM l j:Nat):Int),(((br (l.getD j 0)).length:Nat):Int))
theorem sw (l:List Int)(k:Nat):(jL l k).length=k:=by simp[jL]
theorem yh {l:List Int}{k:Nat}{x:Int}(h:l[k]?=some x):jL l (k+1)=jL l k++[(x,((sM l k:Nat):Int),(((br x).length:Nat):Int))]:=by
 unfold jL
 rw[List.range_succ,List.map_append,List.map_singleton,List.getD_eq_getElem?_getD,h]
 rfl
theorem GU (l:List Int):sM l l.length=(l.flatMap br).length:=by unfold sM;rw[List.take_length]
theorem Ck (l:List Int)(k:Nat):sM l k≤(l.flatMap br).length:=by
 unfold sM
 conv=>rhs;rw[← List.take_append_drop k l,List.flatMap_append,List.length_append]
 omega
theorem IH {l:List Int}{k:Nat}{x:Int}(h:l[k]?=some x):l.flatMap br=(l.take k).flatMap br++(br x++(l.drop (k+1)).flatMap br):=by
 obtain⟨hk,e⟩:=List.getElem?_eq_some_iff.1 h
 conv=>lhs;rw[← List.take_append_drop k l,List.flatMap_append,List.drop_eq_getElem_cons hk,e,List.flatMap_cons]
theorem EF {Φ:Lib}(L:sE Φ)(l:List Int)(hl:∀ x∈l,cv x=true)(hn:(l.flatMap br).length≤1048576)(fl:Bool):fg Φ 213 [jk (l.flatMap br) fl] (.rd (jL l l.length).length ((jL l l.length).flatMap chV) false):=by
 refine aY (fun _=>false) rfl L.f213 ?_
 have hlen:l.length≤(l.flatMap br).length:=by
  have h1:∀ m:List Int,m.length≤(m.flatMap br).length:=fun m=>by
   induction m with
   | nil=>simp
   | cons x m ih =>
    rw[List.flatMap_cons,List.length_append,List.length_cons,dv]
    have:=cO x
    omega
  exact h1 l
 obtain⟨s,hs⟩:∃ s,s=l.flatMap br:=⟨_,rfl⟩
 rw[← hs]at hn hlen ⊢
 repeat' first|apply ad|(apply gq0;first|refine am rfl ?_|refine aG rfl ?_)|(apply gx;first|apply af|refine ae rfl ?_|apply al)|apply aa
 refine bG l.length (fun k env h'=>∃ v,Sep h' [kg ac.empty,cC v 3 k ((jL l k).flatMap chV)]∧env.has [(0,jk s fl),(3,v),(4,.int .i64 (sM l k))]) ⟨_,(Sep.old ac.empty).nil 3,hh_⟩ ?_
 rintro k env h' hk ⟨v,hS,he⟩
 obtain⟨env,rfl⟩:=he.ex
 clear he
 have hv:aC h' v 3 k _:=hS.get (i:=1) rfl
 have hnt:=hv.notTup
 have hle:=Ck l k
 rw[← hs]at hle
 by_cases hk2:k<l.length
 ·obtain⟨x,hx⟩:=aK hk2
  have hsx:=hl x (List.mem_of_getElem? hx)
  have hsn:=Fc hx
  have hle2:=Ck l (k+1)
  rw[← hs]at hle2
  have hel:=dv x
  have hsr:=cO x
  have hfa:=IH hx
  rw[← hs]at hfa
  have hrl:((l.drop (k+1)).flatMap br).length≤1048576:=by
   have:=congrArg List.length hfa
   rw[List.length_append,List.length_append]at this
   omega
  have hdec:=Ia L x hsx ((l.drop (k+1)).flatMap br) hrl fl
  have hdr:s.drop ((sM l k:Nat):Int).toNat=br x++(l.drop (k+1)).flatMap br:=by
   rw[Int.toNat_natCast]
   conv=>lhs;rw[hfa]
   exact List.drop_left' rfl
  rw[← hdr]at hdec
  repeat' first|apply ad|(apply gw;first|(apply gq0;first|refine am rfl ?_|refine aG rfl ?_|refine aq (v:=AV.tup _) rfl ?_|refine aq rv_ ?_)|(apply gq3;first|refine aQ rfl rfl rfl (by omega) (by omega) ?_|(refine aA rfl rfl rfl ?_ ?_<;>(intro hc;try (exfalso;omega))))|refine az rfl ?_|refine aI rfl nt_ ?_|(refine aX (m:=1) rv_ ir_ rfl rfl (by omega) ?_;intro va hpa hra hka hria)|refine cJ rfl ?_|refine bk rfl rfl ?_|refine iG rfl rfl rfl (by omega) (by omega) ?_|refine ci rfl rfl ?_)|(apply gx;first|apply af|refine ae rfl ?_|apply ay|apply al|refine ak rfl ?_)|apply aa|apply aF|refine aU (by assumption) fz_ fz_ ?_
  have hS2:=hS.upd 1 (cC va 3 (k+1) ((jL l k).flatMap chV++[.int .i64 x,.int .i64 (sM l k),.int .i64 (br x).length])) rfl hra hka hria
  refine aP hk2 ⟨va,?_,?_⟩
  ·rw[yh hx,List.flatMap_append]
   exact hS2
  ·rw[hsn]
   exact hh_
 ·obtain rfl:k=l.length:=by omega
  have hla:=GU l
  rw[← hs]at hla
  repeat' first|apply ad|(apply gw;first|(apply gq0;first|refine am rfl ?_|refine aG rfl ?_|refine aq rv_ ?_)|(refine aA rfl rfl rfl ?_ ?_<;>(intro hc;try (exfalso;omega)))|refine az rfl ?_)|(apply gx;first|apply af|refine ae rfl ?_|apply aJ|apply aL|refine ah rfl ?_)|apply aa|apply aM|apply aN|apply aR
  refine fj rfl hv (fun _=>?_)
  rw[sw]
theorem EB {Φ:Lib}(L:sE Φ)(l:List Int)(hl:∀ x∈l,cv x=true)(hn:(l.flatMap br).length≤1048576)(fl:Bool):fg Φ 203 [jk (l.flatMap br) fl] (.int .i64 (-1)):=by
 have k1:=EF L l hl hn fl
 have hc0:∀ c∈jL l l.length,0≤c.1:=fun c hc=>by
  obtain⟨j,hj,rfl⟩:=List.mem_map.1 hc
  have hj2:=List.mem_range.1 hj
  show 0≤l.getD j 0
  rw[List.getD_eq_getElem?_getD,List.getElem?_eq_getElem hj2]
  exact(cx.1 (hl _ (List.getElem_mem hj2))).1
 have hcl:(jL l l.length).length≤1048576:=by
  rw[sw]
  have h1:∀ m:List Int,m.length≤(m.flatMap br).length:=fun m=>by
   induction m with
   | nil=>simp
   | cons x m ih =>
    rw[List.flatMap_cons,List.length_append,List.length_cons,dv]
    have:=cO x
    omega
  have:=h1 l
  omega
 refine aY (fun _=>false) rfl L.f203 ?_
 generalize l.flatMap br=s at k1
 generalize jL l l.length=cs at *
 repeat' first|apply ad|(apply gw;first|(apply gq0;first|refine am rfl ?_|refine aG rfl ?_)|refine aI rfl nt_ ?_)|(apply gx;first|apply af|refine ae rfl ?_|apply al)|apply aa|refine aU (by assumption) fz_ fz_ ?_
 refine bG cs.length (fun k env h'=>env.has [(3,.rd cs.length (cs.flatMap chV) false),(4,.int .i64 k)]) hh_ ?_
 rintro k env h' hk he
 obtain⟨env,rfl⟩:=he.ex
 clear he
 by_cases hk2:k<cs.length
 ·obtain⟨c,hc⟩:=aK hk2
  have h0:=hc0 c (List.mem_of_getElem? hc)
  repeat' first|apply ad|(apply gw;first|(apply gq0;first|refine am rfl ?_|refine aG rfl ?_)|refine aB rfl b_ pv_ ?_|(apply gq3;first|refine aQ rfl rfl rfl (by omega) (by omega) ?_|(refine aA rfl rfl rfl ?_ ?_<;>(intro hc;try (exfalso;omega))))|refine kz rfl (by simp) rfl ?_|refine iS rfl fl_ rfl rfl (by assumption) rfl ?_|refine az rfl ?_)|(apply gx;first|apply af|refine ae rfl ?_|apply ay|apply al|refine ak rfl ?_|refine ah rfl ?_)|apply aa|apply aF
  refine aP hk2 ?_
  exact hh_
 ·repeat' first|apply ad|(apply gw;first|(apply gq0;first|refine am rfl ?_|refine aG rfl ?_)|(refine aA rfl rfl rfl ?_ ?_<;>(intro hc;try (exfalso;omega)))|refine az rfl ?_)|(apply gx;first|apply af|refine ae rfl ?_|apply aJ|apply aL|refine ah rfl ?_)|apply aa|apply aM|apply aN|apply aR
  exact aH (v := .int .i64 (-1)) rfl rfl
end
end Go.Proofs.YtlnobeojgifojaaGreatDoor
