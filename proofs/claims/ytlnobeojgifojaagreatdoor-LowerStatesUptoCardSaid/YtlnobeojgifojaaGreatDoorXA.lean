/- Plain: what the statements ask of a machine of bytes. The document's answer of scalars' bytes: Encode; Decode, Chars, First of scalars' bytes. The document's answer: Chars and First of scalars' bytes. -/
import Derived.Test.YtlnobeojgifojaaGreatDoorVF
import Derived.Test.YtlnobeojgifojaaGreatDoorWC
import Derived.Test.YtlnobeojgifojaaGreatDoorCF
set_option linter.unusedVariables false
set_option linter.unusedSimpArgs false
namespace Go.Proofs.YtlnobeojgifojaaGreatDoor
section
open Go
theorem sc {y x:PD}(hyo:y.Ok)(hx:ix y x)(hn:y.n≤9)(hs:(y.parts.map List.length).sum≤100):OkS x:=by
 have h1:=hx.most hyo (K:=3400) (fun i hi=>Nat.le_trans (rz y.parts (y.row i) hyo.norm) (by omega))
 have h2:y.n*3400≤9*3400:=Nat.mul_le_mul_right _ hn
 exact⟨hx.ok hyo,by omega⟩
def AH (r:Int):Dfa:=⟨⟨[⟨[⟨r,r⟩],true⟩],true⟩,⟨[⟨[1],true⟩,⟨[-1],true⟩],true⟩,⟨[-1,5],true⟩⟩
theorem EE (r:Int):(AH r).Fits:=by
 refine⟨?_,?_,?_,?_,?_⟩<;>simp[AH,cQ]
theorem EN {r:Int}(h:cx r=true){y x:PD}(hy:eE (cT r) y)(hx:ix y x):x=gT (bu r):=by
 rw[rB h hy]at hx
 exact HX h hx
theorem zR {r:Int}(h:cx r=true){x:PD}(hx:ix (cT r) x):OkS x:=by
 refine sc (rt h) hx ?_ ?_
 ·simp[cT,PD.n]
 ·simp[cT]
def Hit (bs l:List Int):Prop:=∀ y∈l,0≤y→bs[y.toNat]?=some 1
theorem Hit.nil (bs:List Int):Hit bs []:=fun y hy=>by cases hy
theorem Hit.set {bs l:List Int}(h:Hit bs l)(k:Nat):Hit (bs.set k 1) l:=fun y hy h0=>by
 have h1:=h y hy h0
 have h2:=lt_of_getElem? h1
 rw[List.getElem?_set]
 split
 ·rename_i e
  rw[if_pos (by omega)]
 ·exact h1
theorem Hit.more {bs l:List Int}(h:Hit bs l){to:Int}(ht:(to.toNat)<bs.length):Hit (bs.set to.toNat 1) (l++[to]):=fun y hy h0=>by
 rcases List.mem_append.1 hy with hy|hy
 ·exact h.set _ y hy h0
 ·simp only[List.mem_singleton]at hy;subst hy
  rw[List.getElem?_set,if_pos rfl,if_pos ht]
theorem Hit.skip {bs l:List Int}(h:Hit bs l){to:Int}(ht:to<0):Hit bs (l++[to]):=fun y hy h0=>by
 rcases List.mem_append.1 hy with hy|hy
 ·exact h y hy h0
 ·simp only[List.mem_singleton]at hy;subst hy;omega
theorem Hit.all {x:PD}{bs:List Int}{y:PD}(hyo:y.Ok)(hx:ix y x)(h:Hit bs x.next.flatten){q:Nat}(h1:1≤q)(h2:q<x.n):bs[q]?=some 1:=by
 obtain⟨r,hr,hq⟩:=hx.come hyo h1 h2
 have:=h q (List.mem_flatten.2 ⟨r,hr,hq⟩) (by omega)
 rwa [Int.toNat_natCast]at this
end
section
open Go
set_option maxHeartbeats 4000000
attribute [local irreducible] aw bd bm cV bz cu dF bH wop cz a8
@[reducible] def u8 (x:Int):AV := .int .u8 x
theorem qD {Φ:Lib}(L:sB Φ)(a:Int)(n:Int)(ha:(n=1∧0≤a∧a<128)∨(n=2∧194≤a∧a≤223)∨(n=3∧224≤a∧a≤239)∨(n=4∧240≤a∧a≤244)):eV Φ 224 [.int .u8 a] (.int .i64 n):=by
 refine aY (fun _=>false) rfl L.f224 ?_
 rcases ha with⟨rfl,h1,h2⟩|⟨rfl,h1,h2⟩|⟨rfl,h1,h2⟩|⟨rfl,h1,h2⟩
 ·repeat' first|apply ad|(apply gw;first|(apply gq0;first|refine am rfl ?_|refine bj rfl ?_)|(refine aA rfl rfl rfl ?_ ?_<;>(intro hc;try (exfalso;omega))))|(apply gx;first|apply af|refine ae rfl ?_|apply al|apply aM|refine ak rfl ?_)|apply aa|apply cv|apply fM
  exact aH (v := .int .i64 1) rfl rfl
 ·repeat' first|apply ad|(apply gw;first|(apply gq0;first|refine am rfl ?_|refine bj rfl ?_)|refine bP rfl ?_|(apply gq3;first|(refine aA rfl rfl rfl ?_ ?_<;>(intro hc;try (exfalso;omega)))|(refine iS rfl rfl rfl ?_ ?_<;>(intro hc;try (exfalso;omega)))|(refine eK rfl rfl rfl ?_ ?_<;>(intro hc;try (exfalso;omega))))|refine aZ rfl rfl ?_)|(apply gx;first|apply af|refine ae rfl ?_|apply al|apply aM|refine ak rfl ?_|refine ah rfl ?_)|apply aa|apply cv|apply fM
  exact aH (v := .int .i64 2) rfl rfl
 ·repeat' first|apply ad|(apply gw;first|(apply gq0;first|refine am rfl ?_|refine bj rfl ?_)|refine bP rfl ?_|(apply gq3;first|(refine aA rfl rfl rfl ?_ ?_<;>(intro hc;try (exfalso;omega)))|(refine iS rfl rfl rfl ?_ ?_<;>(intro hc;try (exfalso;omega)))|(refine eK rfl rfl rfl ?_ ?_<;>(intro hc;try (exfalso;omega))))|refine aZ rfl rfl ?_)|(apply gx;first|apply af|refine ae rfl ?_|apply al|apply aM|refine ak rfl ?_|refine ah rfl ?_)|apply aa|apply cv|apply fM
  exact aH (v := .int .i64 3) rfl rfl
 ·repeat' first|apply ad|(apply gw;first|(apply gq0;first|refine am rfl ?_|refine bj rfl ?_)|refine bP rfl ?_|(apply gq3;first|(refine aA rfl rfl rfl ?_ ?_<;>(intro hc;try (exfalso;omega)))|(refine iS rfl rfl rfl ?_ ?_<;>(intro hc;try (exfalso;omega)))|(refine eK rfl rfl rfl ?_ ?_<;>(intro hc;try (exfalso;omega))))|refine aZ rfl rfl ?_)|(apply gx;first|apply af|refine ae rfl ?_|apply al|apply aM|refine ak rfl ?_|refine ah rfl ?_)|apply aa|apply cv|apply fM
  exact aH (v := .int .i64 4) rfl rfl
theorem pI {Φ:Lib}(L:sB Φ)(a b:Int)(hb:128≤b∧b≤191)(h1:a=224→160≤b)(h2:a=237→b≤159)(h3:a=240→144≤b)(h4:a=244→b≤143):eV Φ 225 [.int .u8 a,.int .u8 b] (.bool true):=by
 have hb1:=hb.1
 have hb2:=hb.2
 refine aY (fun _=>false) rfl L.f225 ?_
 by_cases c1:a=224
 ·subst c1
  have:=h1 rfl
  repeat' first|apply ad|(apply gw;first|(apply gq0;first|refine am rfl ?_|refine bj rfl ?_)|refine bP rfl ?_|(apply gq3;first|(refine iS rfl rfl rfl ?_ ?_<;>(intro hc;try (exfalso;omega)))|(refine eK rfl rfl rfl ?_ ?_<;>(intro hc;try (exfalso;omega)))|(refine cn rfl rfl rfl ?_ ?_<;>(intro hc;try (exfalso;omega))))|refine aZ rfl rfl ?_)|(apply gx;first|apply af|refine ae rfl ?_|apply al|apply aM|refine ak rfl ?_)|apply aa|apply cv|apply fM
  all_goals exact aH (v := .bool true) rfl rfl
 by_cases c2:a=237
 ·subst c2
  have:=h2 rfl
  repeat' first|apply ad|(apply gw;first|(apply gq0;first|refine am rfl ?_|refine bj rfl ?_)|refine bP rfl ?_|(apply gq3;first|(refine iS rfl rfl rfl ?_ ?_<;>(intro hc;try (exfalso;omega)))|(refine eK rfl rfl rfl ?_ ?_<;>(intro hc;try (exfalso;omega)))|(refine cn rfl rfl rfl ?_ ?_<;>(intro hc;try (exfalso;omega))))|refine aZ rfl rfl ?_)|(apply gx;first|apply af|refine ae rfl ?_|apply al|apply aM|refine ak rfl ?_|refine ah rfl ?_)|apply aa|apply cv|apply fM
  all_goals exact aH (v := .bool true) rfl rfl
 by_cases c3:a=240
 ·subst c3
  have:=h3 rfl
  repeat' first|apply ad|(apply gw;first|(apply gq0;first|refine am rfl ?_|refine bj rfl ?_)|refine bP rfl ?_|(apply gq3;first|(refine iS rfl rfl rfl ?_ ?_<;>(intro hc;try (exfalso;omega)))|(refine eK rfl rfl rfl ?_ ?_<;>(intro hc;try (exfalso;omega)))|(refine cn rfl rfl rfl ?_ ?_<;>(intro hc;try (exfalso;omega))))|refine aZ rfl rfl ?_)|(apply gx;first|apply af|refine ae rfl ?_|apply al|apply aM|refine ak rfl ?_|refine ah rfl ?_)|apply aa|apply cv|apply fM
  all_goals exact aH (v := .bool true) rfl rfl
 by_cases c4:a=244
 ·subst c4
  have:=h4 rfl
  repeat' first|apply ad|(apply gw;first|(apply gq0;first|refine am rfl ?_|refine bj rfl ?_)|refine bP rfl ?_|(apply gq3;first|(refine iS rfl rfl rfl ?_ ?_<;>(intro hc;try (exfalso;omega)))|(refine eK rfl rfl rfl ?_ ?_<;>(intro hc;try (exfalso;omega)))|(refine cn rfl rfl rfl ?_ ?_<;>(intro hc;try (exfalso;omega))))|refine aZ rfl rfl ?_)|(apply gx;first|apply af|refine ae rfl ?_|apply al|apply aM|refine ak rfl ?_|refine ah rfl ?_)|apply aa|apply cv|apply fM
  all_goals exact aH (v := .bool true) rfl rfl
 repeat' first|apply ad|(apply gw;first|(apply gq0;first|refine am rfl ?_|refine bj rfl ?_)|refine bP rfl ?_|(apply gq3;first|(refine iS rfl rfl rfl ?_ ?_<;>(intro hc;try (exfalso;omega)))|(refine eK rfl rfl rfl ?_ ?_<;>(intro hc;try (exfalso;omega)))|(refine cn rfl rfl rfl ?_ ?_<;>(intro hc;try (exfalso;omega))))|refine aZ rfl rfl ?_)|(apply gx;first|apply af|refine ae rfl ?_|apply az|apply al|apply aM|refine ah rfl ?_)|apply aa|apply aD
 all_goals exact aH (v := .bool true) rfl rfl
theorem HQ {Φ:Lib}(L:sB Φ)(x:Int)(hs:cx x=true)(rest:List Int)(hr:rest.length≤1048576)(fl:Bool):eV Φ 221 [jZ (bu x++rest) fl] (.tup [.int .i64 x,.int .i64 (bu x).length]):=by
 have h:=cw.1 hs
 have h0:=h.1
 have h1:=h.2.1
 have h2:=h.2.2
 refine aY (fun _=>false) rfl L.f221 ?_
 by_cases c1:x<128
 ·rw[sn c1]
  have hl:([x]++rest).length=rest.length+1:=by simp
  have g0:([x]++rest)[0]?=some x:=rfl
  have k1:=qD L x 1 (by omega)
  generalize [x]++rest=s at hl g0 ⊢
  repeat' first|apply ad|(apply gw;first|(apply gq0;first|refine am rfl ?_|refine aG rfl ?_)|refine aB rfl b_ pv_ ?_|(refine cn rfl rfl rfl ?_ ?_<;>(intro hc;try (exfalso;omega)))|refine ai rfl rfl g0 (by omega) rfl ?_|refine ay rfl ?_|refine aI rfl nt_ ?_|refine gG rfl (by omega) (by omega) ?_)|(apply gx;first|apply af|refine ae rfl ?_|apply az|apply aM|refine ak rfl ?_|refine ah rfl ?_)|apply aa|apply cv|refine aX (by assumption) fz_ fz_ ?_
  exact aH (v := .tup [.int .i64 x,.int .i64 1]) rfl rfl
 by_cases c2:x<2048
 ·rw[sm (by omega) c2]
  have hl:([192+x / 64,128+x%64]++rest).length=rest.length+2:=by simp
  have g0:([192+x / 64,128+x%64]++rest)[0]?=some (192+x / 64):=rfl
  have g1:([192+x / 64,128+x%64]++rest)[1]?=some (128+x%64):=rfl
  have k1:=qD L (192+x / 64) 2 (by omega)
  have k2:=pI L (192+x / 64) (128+x%64) (by omega) (by omega) (by omega) (by omega) (by omega)
  generalize [192+x / 64,128+x%64]++rest=s at hl g0 g1 ⊢
  obtain⟨q,q0,q1⟩:∃ q:Nat→Int,q 0=x / 64∧q 1=x:=⟨fun j=>if j=0 then x / 64 else x,rfl,rfl⟩
  repeat' first|apply ad|(apply gw;first|(apply gq0;first|refine am rfl ?_|refine aG rfl ?_)|refine aB rfl b_ pv_ ?_|(apply gq3;first|refine eJ rfl rfl rfl (by omega) (by omega) ?_|(refine cn rfl rfl rfl ?_ ?_<;>(intro hc;try (exfalso;omega))))|(apply gq5;first|refine ai rfl rfl g0 (by omega) rfl ?_|refine jg (cs':=[_]) rfl rfl (by omega) (by omega) rfl ?_)|refine ay rfl ?_|refine aI rfl nt_ ?_|refine bk rfl rfl ?_|refine gG rfl (by omega) (by omega) ?_)|(apply gx;first|apply af|refine ae rfl ?_|apply az|apply al|refine ah rfl ?_)|apply aa|refine aX (by assumption) fz_ fz_ ?_
  refine bD 1 (fun j env h'=>env.has [(0,jZ s fl),(4,.int .i64 2),(5,.int .i64 (q j)),(6,.int .i64 (j+1))]) (by rw[show q 0=192+x / 64-192 by omega];exact hh_) ?_
  rintro j env h' hj he
  by_cases hj2:j<1
  ·have hj3:=hj2
   obtain⟨env,rfl⟩:=he.ex
   clear he
   obtain rfl:j=0:=by omega
   repeat' first|apply ad|(apply gw;first|(apply gq0;first|refine am rfl ?_|refine bj rfl ?_|refine aG rfl ?_)|refine bP rfl ?_|refine aB rfl b_ pv_ ?_|(apply gq3;first|refine aQ rfl rfl rfl (by omega) (by omega) ?_|refine eJ rfl rfl rfl (by omega) (by omega) ?_|(refine aA rfl rfl rfl ?_ ?_<;>(intro hc;try (exfalso;omega)))|(refine cY rfl rfl rfl ?_ ?_<;>(intro hc;try (exfalso;omega)))|(refine eK rfl rfl rfl ?_ ?_<;>(intro hc;try (exfalso;omega)))|(refine cn rfl rfl rfl ?_ ?_<;>(intro hc;try (exfalso;omega)))|refine ng rfl rfl rfl (by omega) (by omega) ?_)|(apply gq5;first|refine ai rfl rfl g0 (by omega) rfl ?_|refine ai rfl rfl g1 (by omega) rfl ?_)|refine ay rfl ?_|(apply gq7;first|refine aZ rfl rfl ?_|refine bc rfl rfl ?_)|refine aI rfl nt_ ?_|refine dq (b:=true) rfl ?_|refine gG rfl (by omega) (by omega) ?_)|(apply gx;first|apply af|refine ae rfl ?_|apply az|apply al|refine ak rfl ?_|refine ah rfl ?_)|apply aa|apply aD|refine aX (by assumption) fz_ fz_ ?_
   refine aO hj2 ?_
   rw[show q (0+1)=64*q 0+(128+x%64)-128 by simp only[q0,q1];omega]
   exact hh_
  ·obtain rfl:j=1:=by omega
   rw[q1]at he
   obtain⟨env,rfl⟩:=he.ex
   clear he
   repeat' first|apply ad|(apply gw;first|refine am rfl ?_|(refine aA rfl rfl rfl ?_ ?_<;>(intro hc;try (exfalso;omega))))|(apply gx;first|apply af|refine ae rfl ?_|apply aM|apply aJ|refine ah rfl ?_)|apply aa|apply aK|apply aL|apply aR
   exact aH (v := .tup [.int .i64 x,.int .i64 2]) rfl rfl
 by_cases c3:x<65536
 ·rw[qU (by omega) c3]
  have hl:([224+x / 4096,128+x / 64%64,128+x%64]++rest).length=rest.length+3:=by simp
  have g0:([224+x / 4096,128+x / 64%64,128+x%64]++rest)[0]?=some (224+x / 4096):=rfl
  have g1:([224+x / 4096,128+x / 64%64,128+x%64]++rest)[1]?=some (128+x / 64%64):=rfl
  have g2:([224+x / 4096,128+x / 64%64,128+x%64]++rest)[2]?=some (128+x%64):=rfl
  have k1:=qD L (224+x / 4096) 3 (by omega)
  have k2:=pI L (224+x / 4096) (128+x / 64%64) (by omega) (by omega) (by omega) (by omega) (by omega)
  generalize [224+x / 4096,128+x / 64%64,128+x%64]++rest=s at hl g0 g1 g2 ⊢
  obtain⟨q,q0,q1,q2⟩:∃ q:Nat→Int,q 0=x / 4096∧q 1=x / 64∧q 2=x:=⟨fun j=>if j=0 then x / 4096 else if j=1 then x / 64 else x,rfl,rfl,rfl⟩
  repeat' first|apply ad|(apply gw;first|(apply gq0;first|refine am rfl ?_|refine aG rfl ?_)|refine aB rfl b_ pv_ ?_|(apply gq3;first|refine eJ rfl rfl rfl (by omega) (by omega) ?_|(refine cn rfl rfl rfl ?_ ?_<;>(intro hc;try (exfalso;omega))))|(apply gq5;first|refine ai rfl rfl g0 (by omega) rfl ?_|refine jg (cs':=[_]) rfl rfl (by omega) (by omega) rfl ?_)|refine ay rfl ?_|refine aI rfl nt_ ?_|refine bk rfl rfl ?_|refine gG rfl (by omega) (by omega) ?_)|(apply gx;first|apply af|refine ae rfl ?_|apply az|apply al|refine ah rfl ?_)|apply aa|refine aX (by assumption) fz_ fz_ ?_
  refine bD 2 (fun j env h'=>env.has [(0,jZ s fl),(4,.int .i64 3),(5,.int .i64 (q j)),(6,.int .i64 (j+1))]) (by rw[show q 0=224+x / 4096-224 by omega];exact hh_) ?_
  rintro j env h' hj he
  by_cases hj2:j<2
  ·have hj3:=hj2
   obtain⟨env,rfl⟩:=he.ex
   clear he
   rcases (show j=0∨j=1 by omega) with rfl|rfl
   ·repeat' first|apply ad|(apply gw;first|(apply gq0;first|refine am rfl ?_|refine bj rfl ?_|refine aG rfl ?_)|refine bP rfl ?_|refine aB rfl b_ pv_ ?_|(apply gq3;first|refine aQ rfl rfl rfl (by omega) (by omega) ?_|refine eJ rfl rfl rfl (by omega) (by omega) ?_|(refine aA rfl rfl rfl ?_ ?_<;>(intro hc;try (exfalso;omega)))|(refine cY rfl rfl rfl ?_ ?_<;>(intro hc;try (exfalso;omega)))|(refine eK rfl rfl rfl ?_ ?_<;>(intro hc;try (exfalso;omega)))|(refine cn rfl rfl rfl ?_ ?_<;>(intro hc;try (exfalso;omega)))|refine ng rfl rfl rfl (by omega) (by omega) ?_)|(apply gq5;first|refine ai rfl rfl g0 (by omega) rfl ?_|refine ai rfl rfl g1 (by omega) rfl ?_)|refine ay rfl ?_|(apply gq7;first|refine aZ rfl rfl ?_|refine bc rfl rfl ?_)|refine aI rfl nt_ ?_|refine dq (b:=true) rfl ?_|refine gG rfl (by omega) (by omega) ?_)|(apply gx;first|apply af|refine ae rfl ?_|apply az|apply al|refine ak rfl ?_|refine ah rfl ?_)|apply aa|apply aD|refine aX (by assumption) fz_ fz_ ?_
    refine aO hj2 ?_
    rw[show q (0+1)=64*q 0+(128+x / 64%64)-128 by simp only[q0,q1];omega]
    exact hh_
   ·repeat' first|apply ad|(apply gw;first|(apply gq0;first|refine am rfl ?_|refine bj rfl ?_|refine aG rfl ?_)|(apply gq1;first|refine cr rfl ?_|refine bP rfl ?_)|refine aB rfl b_ pv_ ?_|(apply gq3;first|refine aQ rfl rfl rfl (by omega) (by omega) ?_|refine eJ rfl rfl rfl (by omega) (by omega) ?_|(refine aA rfl rfl rfl ?_ ?_<;>(intro hc;try (exfalso;omega)))|(refine cY rfl rfl rfl ?_ ?_<;>(intro hc;try (exfalso;omega)))|(refine eK rfl rfl rfl ?_ ?_<;>(intro hc;try (exfalso;omega)))|(refine cn rfl rfl rfl ?_ ?_<;>(intro hc;try (exfalso;omega)))|refine ng rfl rfl rfl (by omega) (by omega) ?_)|refine ai rfl rfl g2 (by omega) rfl ?_|refine ay rfl ?_|refine bc rfl rfl ?_|refine gG rfl (by omega) (by omega) ?_)|(apply gx;first|apply af|refine ae rfl ?_|apply az|apply al|refine ak rfl ?_|refine ah rfl ?_)|apply aa|apply aD
    refine aO hj2 ?_
    rw[show q (1+1)=64*q 1+(128+x%64)-128 by simp only[q1,q2];omega]
    exact hh_
  ·obtain rfl:j=2:=by omega
   rw[q2]at he
   obtain⟨env,rfl⟩:=he.ex
   clear he
   repeat' first|apply ad|(apply gw;first|refine am rfl ?_|(refine aA rfl rfl rfl ?_ ?_<;>(intro hc;try (exfalso;omega))))|(apply gx;first|apply af|refine ae rfl ?_|apply aM|apply aJ|refine ah rfl ?_)|apply aa|apply aK|apply aL|apply aR
   exact aH (v := .tup [.int .i64 x,.int .i64 3]) rfl rfl
 rw[sl (by omega)]
 have hl:([240+x / 262144,128+x / 4096%64,128+x / 64%64,128+x%64]++rest).length=rest.length+4:=by simp
 have g0:([240+x / 262144,128+x / 4096%64,128+x / 64%64,128+x%64]++rest)[0]?=some (240+x / 262144):=rfl
 have g1:([240+x / 262144,128+x / 4096%64,128+x / 64%64,128+x%64]++rest)[1]?=some (128+x / 4096%64):=rfl
 have g2:([240+x / 262144,128+x / 4096%64,128+x / 64%64,128+x%64]++rest)[2]?=some (128+x / 64%64):=rfl
 have g3:([240+x / 262144,128+x / 4096%64,128+x / 64%64,128+x%64]++rest)[3]?=some (128+x%64):=rfl
 have k1:=qD L (240+x / 262144) 4 (by omega)
 have k2:=pI L (240+x / 262144) (128+x / 4096%64) (by omega) (by omega) (by omega) (by omega) (by omega)
 generalize [240+x / 262144,128+x / 4096%64,128+x / 64%64,128+x%64]++rest=s at hl g0 g1 g2 g3 ⊢
 obtain⟨q,q0,q1,q2,q3⟩:∃ q:Nat→Int,q 0=x / 262144∧q 1=x / 4096∧q 2=x / 64∧q 3=x:=⟨fun j=>if j=0 then x / 262144 else if j=1 then x / 4096 else if j=2 then x / 64 else x,rfl,rfl,rfl,rfl⟩
 repeat' first|apply ad|(apply gw;first|(apply gq0;first|refine am rfl ?_|refine aG rfl ?_)|refine aB rfl b_ pv_ ?_|(apply gq3;first|refine eJ rfl rfl rfl (by omega) (by omega) ?_|(refine cn rfl rfl rfl ?_ ?_<;>(intro hc;try (exfalso;omega))))|(apply gq5;first|refine ai rfl rfl g0 (by omega) rfl ?_|refine jg (cs':=[_]) rfl rfl (by omega) (by omega) rfl ?_)|refine ay rfl ?_|refine aI rfl nt_ ?_|refine bk rfl rfl ?_|refine gG rfl (by omega) (by omega) ?_)|(apply gx;first|apply af|refine ae rfl ?_|apply az|apply al|refine ah rfl ?_)|apply aa|refine aX (by assumption) fz_ fz_ ?_
 refine bD 3 (fun j env h'=>env.has [(0,jZ s fl),(4,.int .i64 4),(5,.int .i64 (q j)),(6,.int .i64 (j+1))]) (by rw[show q 0=240+x / 262144-240 by omega];exact hh_) ?_
 rintro j env h' hj he
 by_cases hj2:j<3
 ·have hj3:=hj2
  obtain⟨env,rfl⟩:=he.ex
  clear he
  rcases (show j=0∨j=1∨j=2 by omega) with rfl|rfl|rfl
  ·repeat' first|apply ad|(apply gw;first|(apply gq0;first|refine am rfl ?_|refine bj rfl ?_|refine aG rfl ?_)|refine bP rfl ?_|refine aB rfl b_ pv_ ?_|(apply gq3;first|refine aQ rfl rfl rfl (by omega) (by omega) ?_|refine eJ rfl rfl rfl (by omega) (by omega) ?_|(refine aA rfl rfl rfl ?_ ?_<;>(intro hc;try (exfalso;omega)))|(refine cY rfl rfl rfl ?_ ?_<;>(intro hc;try (exfalso;omega)))|(refine eK rfl rfl rfl ?_ ?_<;>(intro hc;try (exfalso;omega)))|(refine cn rfl rfl rfl ?_ ?_<;>(intro hc;try (exfalso;omega)))|refine ng rfl rfl rfl (by omega) (by omega) ?_)|(apply gq5;first|refine ai rfl rfl g0 (by omega) rfl ?_|refine ai rfl rfl g1 (by omega) rfl ?_)|refine ay rfl ?_|(apply gq7;first|refine aZ rfl rfl ?_|refine bc rfl rfl ?_)|refine aI rfl nt_ ?_|refine dq (b:=true) rfl ?_|refine gG rfl (by omega) (by omega) ?_)|(apply gx;first|apply af|refine ae rfl ?_|apply az|apply al|refine ak rfl ?_|refine ah rfl ?_)|apply aa|apply aD|refine aX (by assumption) fz_ fz_ ?_
   refine aO hj2 ?_
   rw[show q (0+1)=64*q 0+(128+x / 4096%64)-128 by simp only[q0,q1];omega]
   exact hh_
  ·repeat' first|apply ad|(apply gw;first|(apply gq0;first|refine am rfl ?_|refine bj rfl ?_|refine aG rfl ?_)|(apply gq1;first|refine cr rfl ?_|refine bP rfl ?_)|refine aB rfl b_ pv_ ?_|(apply gq3;first|refine aQ rfl rfl rfl (by omega) (by omega) ?_|refine eJ rfl rfl rfl (by omega) (by omega) ?_|(refine aA rfl rfl rfl ?_ ?_<;>(intro hc;try (exfalso;omega)))|(refine cY rfl rfl rfl ?_ ?_<;>(intro hc;try (exfalso;omega)))|(refine eK rfl rfl rfl ?_ ?_<;>(intro hc;try (exfalso;omega)))|(refine cn rfl rfl rfl ?_ ?_<;>(intro hc;try (exfalso;omega)))|refine ng rfl rfl rfl (by omega) (by omega) ?_)|refine ai rfl rfl g2 (by omega) rfl ?_|refine ay rfl ?_|refine bc rfl rfl ?_|refine gG rfl (by omega) (by omega) ?_)|(apply gx;first|apply af|refine ae rfl ?_|apply az|apply al|refine ak rfl ?_|refine ah rfl ?_)|apply aa|apply aD
   refine aO hj2 ?_
   rw[show q (1+1)=64*q 1+(128+x / 64%64)-128 by simp only[q1,q2];omega]
   exact hh_
  ·repeat' first|apply ad|(apply gw;first|(apply gq0;first|refine am rfl ?_|refine bj rfl ?_|refine aG rfl ?_)|(apply gq1;first|refine cr rfl ?_|refine bP rfl ?_)|refine aB rfl b_ pv_ ?_|(apply gq3;first|refine aQ rfl rfl rfl (by omega) (by omega) ?_|refine eJ rfl rfl rfl (by omega) (by omega) ?_|(refine aA rfl rfl rfl ?_ ?_<;>(intro hc;try (exfalso;omega)))|(refine cY rfl rfl rfl ?_ ?_<;>(intro hc;try (exfalso;omega)))|(refine eK rfl rfl rfl ?_ ?_<;>(intro hc;try (exfalso;omega)))|(refine cn rfl rfl rfl ?_ ?_<;>(intro hc;try (exfalso;omega)))|refine ng rfl rfl rfl (by omega) (by omega) ?_)|refine ai rfl rfl g3 (by omega) rfl ?_|refine ay rfl ?_|refine bc rfl rfl ?_|refine gG rfl (by omega) (by omega) ?_)|(apply gx;first|apply af|refine ae rfl ?_|apply az|apply al|refine ak rfl ?_|refine ah rfl ?_)|apply aa|apply aD
   refine aO hj2 ?_
   rw[show q (2+1)=64*q 2+(128+x%64)-128 by simp only[q2,q3];omega]
   exact hh_
 ·obtain rfl:j=3:=by omega
  rw[q3]at he
  obtain⟨env,rfl⟩:=he.ex
  clear he
  repeat' first|apply ad|(apply gw;first|refine am rfl ?_|(refine aA rfl rfl rfl ?_ ?_<;>(intro hc;try (exfalso;omega))))|(apply gx;first|apply af|refine ae rfl ?_|apply aM|apply aJ|refine ah rfl ?_)|apply aa|apply aK|apply aL|apply aR
  exact aH (v := .tup [.int .i64 x,.int .i64 4]) rfl rfl
end
section
open Go
set_option maxHeartbeats 4000000
attribute [local irreducible] aw bd bm cV bz cu dF bH wop cz a8
@[reducible] def chV (c:Int×Int×Int):List AV:=[.int .i64 c.1,.int .i64 c.2.1,.int .i64 c.2.2]
@[simp] theorem KF (l:List (Int×Int×Int)):AV.frozenL (l.flatMap chV)=true:=j6 (fun r=>by simp[AV.frozenL,AV.frozen]) l
@[simp] theorem JX (n:Nat)(l:List Int):AV.frozenL ((l.map (AV.int .u8)).drop n)=true:=by
 rw[← List.map_drop]
 exact ez (fun r=>by simp[AV.frozen]) _
@[simp] theorem JS (n:Nat)(l:List Int):AV.frozenL ((l.map (AV.int .u8)).take n)=true:=by
 rw[← List.map_take]
 exact ez (fun r=>by simp[AV.frozen]) _
def jF (l:List Int)(k:Nat):List (Int×Int×Int):=(List.range k).map fun j=>(l.getD j 0,((sI l j:Nat):Int),(((bu (l.getD j 0)).length:Nat):Int))
theorem sr (l:List Int)(k:Nat):(jF l k).length=k:=by simp[jF]
theorem x9 {l:List Int}{k:Nat}{x:Int}(h:l[k]?=some x):jF l (k+1)=jF l k++[(x,((sI l k:Nat):Int),(((bu x).length:Nat):Int))]:=by
 unfold jF
 rw[List.range_succ,List.map_append,List.map_singleton,List.getD_eq_getElem?_getD,h]
 rfl
theorem Gx (l:List Int):sI l l.length=(l.flatMap bu).length:=by unfold sI;rw[List.take_length]
theorem BY (l:List Int)(k:Nat):sI l k≤(l.flatMap bu).length:=by
 unfold sI
 conv=>rhs;rw[← List.take_append_drop k l,List.flatMap_append,List.length_append]
 omega
theorem Il {l:List Int}{k:Nat}{x:Int}(h:l[k]?=some x):l.flatMap bu=(l.take k).flatMap bu++(bu x++(l.drop (k+1)).flatMap bu):=by
 obtain⟨hk,e⟩:=List.getElem?_eq_some_iff.1 h
 conv=>lhs;rw[← List.take_append_drop k l,List.flatMap_append,List.drop_eq_getElem_cons hk,e,List.flatMap_cons]
theorem Ej {Φ:Lib}(L:sB Φ)(l:List Int)(hl:∀ x∈l,cx x=true)(hn:(l.flatMap bu).length≤1048576)(fl:Bool):eV Φ 213 [jZ (l.flatMap bu) fl] (.rd (jF l l.length).length ((jF l l.length).flatMap chV) false):=by
 refine aY (fun _=>false) rfl L.f213 ?_
 have hlen:l.length≤(l.flatMap bu).length:=by
  have h1:∀ m:List Int,m.length≤(m.flatMap bu).length:=fun m=>by
   induction m with
   | nil=>simp
   | cons x m ih =>
    rw[List.flatMap_cons,List.length_append,List.length_cons,dG]
    have:=c8 x
    omega
  exact h1 l
 obtain⟨s,hs⟩:∃ s,s=l.flatMap bu:=⟨_,rfl⟩
 rw[← hs]at hn hlen ⊢
 repeat' first|apply ad|(apply gq0;first|refine am rfl ?_|refine aG rfl ?_)|(apply gx;first|apply af|refine ae rfl ?_|apply al)|apply aa
 refine bD l.length (fun k env h'=>∃ v,Sep h' [jA ac.empty,cB v 3 k ((jF l k).flatMap chV)]∧env.has [(0,jZ s fl),(3,v),(4,.int .i64 (sI l k))]) ⟨_,(Sep.old ac.empty).nil 3,hh_⟩ ?_
 rintro k env h' hk ⟨v,hS,he⟩
 obtain⟨env,rfl⟩:=he.ex
 clear he
 have hv:aC h' v 3 k _:=hS.get (i:=1) rfl
 have hnt:=hv.notTup
 have hle:=BY l k
 rw[← hs]at hle
 by_cases hk2:k<l.length
 ·obtain⟨x,hx⟩:=aN hk2
  have hsx:=hl x (List.mem_of_getElem? hx)
  have hsn:=ER hx
  have hle2:=BY l (k+1)
  rw[← hs]at hle2
  have hel:=dG x
  have hsr:=c8 x
  have hfa:=Il hx
  rw[← hs]at hfa
  have hrl:((l.drop (k+1)).flatMap bu).length≤1048576:=by
   have:=congrArg List.length hfa
   rw[List.length_append,List.length_append]at this
   omega
  have hdec:=HQ L x hsx ((l.drop (k+1)).flatMap bu) hrl fl
  have hdr:s.drop ((sI l k:Nat):Int).toNat=bu x++(l.drop (k+1)).flatMap bu:=by
   rw[Int.toNat_natCast]
   conv=>lhs;rw[hfa]
   exact List.drop_left' rfl
  rw[← hdr]at hdec
  repeat' first|apply ad|(apply gw;first|(apply gq0;first|refine am rfl ?_|refine aG rfl ?_|refine ar (v:=AV.tup _) rfl ?_|refine ar rv_ ?_)|(apply gq3;first|refine aQ rfl rfl rfl (by omega) (by omega) ?_|(refine aA rfl rfl rfl ?_ ?_<;>(intro hc;try (exfalso;omega))))|refine ay rfl ?_|refine aI rfl nt_ ?_|(refine aW (m:=1) rv_ ir_ rfl rfl (by omega) ?_;intro va hpa hra hka hria)|refine cL rfl ?_|refine bk rfl rfl ?_|refine iy rfl rfl rfl (by omega) (by omega) ?_|refine ci rfl rfl ?_)|(apply gx;first|apply af|refine ae rfl ?_|apply az|apply al|refine ak rfl ?_)|apply aa|apply aD|refine aX (by assumption) fz_ fz_ ?_
  have hS2:=hS.upd 1 (cB va 3 (k+1) ((jF l k).flatMap chV++[.int .i64 x,.int .i64 (sI l k),.int .i64 (bu x).length])) rfl hra hka hria
  refine aO hk2 ⟨va,?_,?_⟩
  ·rw[x9 hx,List.flatMap_append]
   exact hS2
  ·rw[hsn]
   exact hh_
 ·obtain rfl:k=l.length:=by omega
  have hla:=Gx l
  rw[← hs]at hla
  repeat' first|apply ad|(apply gw;first|(apply gq0;first|refine am rfl ?_|refine aG rfl ?_|refine ar rv_ ?_)|(refine aA rfl rfl rfl ?_ ?_<;>(intro hc;try (exfalso;omega)))|refine ay rfl ?_)|(apply gx;first|apply af|refine ae rfl ?_|apply aM|apply aJ|refine ah rfl ?_)|apply aa|apply aK|apply aL|apply aR
  refine fe rfl hv (fun _=>?_)
  rw[sr]
theorem Ee {Φ:Lib}(L:sB Φ)(l:List Int)(hl:∀ x∈l,cx x=true)(hn:(l.flatMap bu).length≤1048576)(fl:Bool):eV Φ 203 [jZ (l.flatMap bu) fl] (.int .i64 (-1)):=by
 have k1:=Ej L l hl hn fl
 have hc0:∀ c∈jF l l.length,0≤c.1:=fun c hc=>by
  obtain⟨j,hj,rfl⟩:=List.mem_map.1 hc
  have hj2:=List.mem_range.1 hj
  show 0≤l.getD j 0
  rw[List.getD_eq_getElem?_getD,List.getElem?_eq_getElem hj2]
  exact(cw.1 (hl _ (List.getElem_mem hj2))).1
 have hcl:(jF l l.length).length≤1048576:=by
  rw[sr]
  have h1:∀ m:List Int,m.length≤(m.flatMap bu).length:=fun m=>by
   induction m with
   | nil=>simp
   | cons x m ih =>
    rw[List.flatMap_cons,List.length_append,List.length_cons,dG]
    have:=c8 x
    omega
  have:=h1 l
  omega
 refine aY (fun _=>false) rfl L.f203 ?_
 generalize l.flatMap bu=s at k1
 generalize jF l l.length=cs at *
 repeat' first|apply ad|(apply gw;first|(apply gq0;first|refine am rfl ?_|refine aG rfl ?_)|refine aI rfl nt_ ?_)|(apply gx;first|apply af|refine ae rfl ?_|apply al)|apply aa|refine aX (by assumption) fz_ fz_ ?_
 refine bD cs.length (fun k env h'=>env.has [(3,.rd cs.length (cs.flatMap chV) false),(4,.int .i64 k)]) hh_ ?_
 rintro k env h' hk he
 obtain⟨env,rfl⟩:=he.ex
 clear he
 by_cases hk2:k<cs.length
 ·obtain⟨c,hc⟩:=aN hk2
  have h0:=hc0 c (List.mem_of_getElem? hc)
  repeat' first|apply ad|(apply gw;first|(apply gq0;first|refine am rfl ?_|refine aG rfl ?_)|refine aB rfl b_ pv_ ?_|(apply gq3;first|refine aQ rfl rfl rfl (by omega) (by omega) ?_|(refine aA rfl rfl rfl ?_ ?_<;>(intro hc;try (exfalso;omega))))|refine kp rfl (by simp) rfl ?_|refine iN rfl fl_ rfl rfl (by assumption) rfl ?_|refine ay rfl ?_)|(apply gx;first|apply af|refine ae rfl ?_|apply az|apply al|refine ak rfl ?_|refine ah rfl ?_)|apply aa|apply aD
  refine aO hk2 ?_
  exact hh_
 ·repeat' first|apply ad|(apply gw;first|(apply gq0;first|refine am rfl ?_|refine aG rfl ?_)|(refine aA rfl rfl rfl ?_ ?_<;>(intro hc;try (exfalso;omega)))|refine ay rfl ?_)|(apply gx;first|apply af|refine ae rfl ?_|apply aM|apply aJ|refine ah rfl ?_)|apply aa|apply aK|apply aL|apply aR
  exact aH (v := .int .i64 (-1)) rfl rfl
end
end Go.Proofs.YtlnobeojgifojaaGreatDoor
