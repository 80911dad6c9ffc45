/- Steps of bits. utf.Encode: a scalar as bytes. seqs.place: where a span is cut. seqs.bySize: spans by how many bytes their scalars have. -/
import Derived.Test.YtlnobeojgifojaaGreatDoorE1
import Derived.Test.YtlnobeojgifojaaGreatDoorCF
import Derived.Test.YtlnobeojgifojaaGreatDoorWC
import Derived.Test.YtlnobeojgifojaaGreatDoorD7
import Derived.Test.YtlnobeojgifojaaGreatDoorO2
set_option linter.unusedVariables false
set_option linter.unusedSimpArgs false
namespace Go.Proofs.YtlnobeojgifojaaGreatDoor
section
open Go
theorem Gl {r j:Nat}(h:r<2 ^ j):r ||| (2 ^ j-1)=2 ^ j-1:=by
 apply Nat.eq_of_testBit_eq
 intro i
 rw[Nat.testBit_or,Nat.testBit_two_pow_sub_one]
 by_cases hi:i<j
 ·simp[hi]
 ·have:r.testBit i=false:=Nat.testBit_lt_two_pow (Nat.lt_of_lt_of_le h (Nat.pow_le_pow_right HT HT))
  simp[hi,this]
theorem Fg (x j:Nat):x ||| (2 ^ j-1)=2 ^ j*(x / 2 ^ j)+(2 ^ j-1):=by
 have hp:0<2 ^ j:=Nat.two_pow_pos j
 have h1:x=2 ^ j*(x / 2 ^ j) ||| x%2 ^ j:=by
  rw[← Nat.two_pow_add_eq_or_of_lt (Nat.mod_lt _ hp)]
  exact(Nat.div_add_mod _ _).symm
 have h2:x ||| (2 ^ j-1)=2 ^ j*(x / 2 ^ j) ||| (2 ^ j-1):=by
  have h3:=Nat.or_assoc (2 ^ j*(x / 2 ^ j)) (x%2 ^ j) (2 ^ j-1)
  rw[Gl (Nat.mod_lt x hp),← h1]at h3
  exact h3
 rw[h2,← Nat.two_pow_add_eq_or_of_lt HT]
theorem xP {w:Nat}(x:BitVec w){j:Nat}(hj:j<w)(m:BitVec w)(hm:m.toNat=2 ^ j-1):(x &&& ~~~m).toNat=x.toNat / 2 ^ j*2 ^ j:=by
 apply Nat.eq_of_testBit_eq
 intro i
 rw[BitVec.testBit_toNat,BitVec.getLsbD_and,BitVec.getLsbD_not,Nat.testBit_mul_two_pow,Nat.testBit_div_two_pow,← BitVec.testBit_toNat,← BitVec.testBit_toNat,hm,Nat.testBit_two_pow_sub_one]
 by_cases h1:j≤i
 ·have e:i-j+j=i:=by omega
  by_cases h2:i<w
  ·simp[h1,h2,e,show ¬ i<j by omega]
  ·have:x.toNat.testBit i=false:=Nat.testBit_lt_two_pow (Nat.lt_of_lt_of_le x.isLt (Nat.pow_le_pow_right HT HT))
   simp[h2,this,e]
 ·simp[h1,show i<j by omega]
theorem iR {w:Nat}{a:Int}(h0:0≤a)(h1:a<2 ^ w):(BitVec.ofInt w a).toNat=a.toNat:=by
 rw[BitVec.toNat_ofInt]
 rw[Int.emod_eq_of_lt h0 (by exact_mod_cast h1)]
section
variable {F:bR} {r:List bA} {Q:Env→aa→Prop} {env:Env} {h:aa} {d:Nat} {x y:bl}
theorem yb {k:IntKind}{a b m:Int}(hx:ev env x = .int k a)(hy:ev env y = .int .u64 b)(hb:0≤b)(hm:(2:Int) ^ (min b.toNat k.bits)=m)(h0:0≤a)(hp:0<m)(k1:aj F r Q (env.put d (.int k (a / m))) h):aj F (⟨some d,.bin .shr x y,none⟩::r) Q env h:=by
 have e:a.fdiv m=a / m:=Int.fdiv_eq_ediv_of_nonneg a HT
 simp[hx,hy,hm,e,show ¬ b<0 by omega,k1]
theorem yc {k:IntKind}{a b v:Int}(hx:ev env x = .int k a)(hy:ev env y = .int .i64 b)(hb:0≤b)(hv:k.wrap (a*2 ^ (min b.toNat k.bits))=v)(k1:aj F r Q (env.put d (.int k v)) h):aj F (⟨some d,.bin .shl x y,none⟩::r) Q env h:=by
 simp[hx,hy,hv,show ¬ b<0 by omega,k1]
theorem qN {k:IntKind}{a m:Int}{j:Nat}(hj:j<k.bits)(hm:m=2 ^ j-1)(h0:0≤a)(h1:a<2 ^ k.bits):((BitVec.ofInt k.bits a &&& BitVec.ofInt k.bits m).toNat:Int)=a%2 ^ j:=by
 have hp:0<2 ^ j:=Nat.two_pow_pos j
 have hm0:0≤m:=by
  rw[hm];have:(1:Int)≤2 ^ j:=by exact_mod_cast hp
  omega
 have hlt:(2:Nat) ^ j≤2 ^ k.bits:=Nat.pow_le_pow_right HT HT
 have hm1:m<2 ^ k.bits:=by
  have:((2:Int) ^ j)≤2 ^ k.bits:=by exact_mod_cast hlt
  omega
 have e:m.toNat=2 ^ j-1:=by
  have:((2 ^ j:Nat):Int)=(2:Int) ^ j:=by push_cast;rfl
  omega
 rw[BitVec.toNat_and,iR h0 h1,iR hm0 hm1,e,Nat.and_two_pow_sub_one_eq_mod]
 have e2:((a.toNat:Nat):Int)=a:=by omega
 rw[Int.natCast_emod,e2]
 congr 1
theorem yB {k:IntKind}{a m:Int}{j:Nat}(hj:j<k.bits)(hm:m=2 ^ j-1)(h0:0≤a)(h1:a<2 ^ k.bits):((BitVec.ofInt k.bits a ||| BitVec.ofInt k.bits m).toNat:Int)=a / 2 ^ j*2 ^ j+m:=by
 have hp:0<2 ^ j:=Nat.two_pow_pos j
 have hm0:0≤m:=by
  rw[hm];have:(1:Int)≤2 ^ j:=by exact_mod_cast hp
  omega
 have hlt:(2:Nat) ^ j≤2 ^ k.bits:=Nat.pow_le_pow_right HT HT
 have hm1:m<2 ^ k.bits:=by
  have:((2:Int) ^ j)≤2 ^ k.bits:=by exact_mod_cast hlt
  omega
 have e:m.toNat=2 ^ j-1:=by
  have:((2 ^ j:Nat):Int)=(2:Int) ^ j:=by push_cast;rfl
  omega
 rw[BitVec.toNat_or,iR h0 h1,iR hm0 hm1,e,Fg,← e,Int.natCast_add,Int.natCast_mul,Int.natCast_ediv]
 have e2:((a.toNat:Nat):Int)=a:=by omega
 have e3:((m.toNat:Nat):Int)=m:=by omega
 have e4:((2 ^ j:Nat):Int)=(2:Int) ^ j:=by push_cast;rfl
 rw[e2,e3,e4,Int.mul_comm]
theorem vu {k:IntKind}{a m:Int}{j:Nat}(hj:j<k.bits)(hm:m=2 ^ j-1)(h0:0≤a)(h1:a<2 ^ k.bits):((BitVec.ofInt k.bits a &&& ~~~BitVec.ofInt k.bits m).toNat:Int)=a / 2 ^ j*2 ^ j:=by
 have hp:0<2 ^ j:=Nat.two_pow_pos j
 have hm0:0≤m:=by
  rw[hm];have:(1:Int)≤2 ^ j:=by exact_mod_cast hp
  omega
 have hlt:(2:Nat) ^ j≤2 ^ k.bits:=Nat.pow_le_pow_right HT HT
 have hm1:m<2 ^ k.bits:=by
  have:((2:Int) ^ j)≤2 ^ k.bits:=by exact_mod_cast hlt
  omega
 have e:m.toNat=2 ^ j-1:=by
  have:((2 ^ j:Nat):Int)=(2:Int) ^ j:=by push_cast;rfl
  omega
 rw[xP _ hj _ (by rw[iR hm0 hm1,e]),iR h0 h1,Int.natCast_mul,Int.natCast_ediv]
 have e2:((a.toNat:Nat):Int)=a:=by omega
 have e4:((2 ^ j:Nat):Int)=(2:Int) ^ j:=by push_cast;rfl
 rw[e2,e4]
theorem lP {a:Int}(h0:0≤a)(h1:a≤9223372036854775807):IntKind.i64.wrap a=a:=by simp[IntKind.wrap,IntKind.bits,IntKind.signed];omega
theorem FM {a:Int}(h0:0≤a)(h1:a≤255):IntKind.u8.wrap a=a:=by simp[IntKind.wrap,IntKind.bits,IntKind.signed];omega
theorem iY {k:IntKind}{op:BinOp}{a b v:Int}(hx:ev env x = .int k a)(hy:ev env y = .int k b)(hv:uv op (.int k a) (.int k b)=some (.int k v))(k1:aj F r Q (env.put d (.int k v)) h):aj F (⟨some d,.bin op x y,none⟩::r) Q env h:=by
 rw[bE,uC,hx,hy,hv]
 exact k1
theorem E3 {a:Int}(hx:ev env x = .int .u8 a)(hy:ev env y = .int .u8 63)(h0:0≤a)(h1:a≤255)(k1:aj F r Q (env.put d (.int .u8 (a%64))) h):aj F (⟨some d,.bin .and x y,none⟩::r) Q env h:=by
 have e:=qN (k := .u8) (a:=a) (m:=63) (j:=6) (by decide) rfl h0 (by show a<256;omega)
 refine iY hx hy ?_ k1
 show some (AV.int .u8 (IntKind.u8.wrap _))=_
 rw[e]
 exact congrArg (fun v=>some (AV.int .u8 v)) (FM (by show 0≤a%64;omega) (by show a%64≤_;omega))
theorem ye {c a:Int}{j:Nat}(hx:ev env x = .int .u8 c)(hy:ev env y = .int .u8 a)(hj:c=2 ^ j*(c / 2 ^ j))(h0:0≤a)(h1:a<2 ^ j)(hc:0≤c)(hca:c+a≤255)(k1:aj F r Q (env.put d (.int .u8 (c+a))) h):aj F (⟨some d,.bin .or x y,none⟩::r) Q env h:=by
 have hc1:c<2 ^ IntKind.u8.bits:=by show c<256;omega
 have ha1:a<2 ^ IntKind.u8.bits:=by show a<256;omega
 have e4:((2 ^ j:Nat):Int)=(2:Int) ^ j:=by push_cast;rfl
 have e:((BitVec.ofInt IntKind.u8.bits c ||| BitVec.ofInt IntKind.u8.bits a).toNat:Int)=c+a:=by
  rw[BitVec.toNat_or,iR hc hc1,iR h0 ha1]
  have g1:c.toNat=2 ^ j*(c.toNat / 2 ^ j):=by
   have e3:((c.toNat:Nat):Int)=c:=by omega
   have:((c.toNat:Nat):Int)=((2 ^ j*(c.toNat / 2 ^ j):Nat):Int):=by
    rw[Int.natCast_mul,Int.natCast_ediv,e4,e3];exact hj
   exact Int.ofNat.inj this
  rw[g1,← Nat.two_pow_add_eq_or_of_lt HT,← g1]
  omega
 refine iY hx hy ?_ k1
 show some (AV.int .u8 (IntKind.u8.wrap _))=_
 rw[e]
 exact congrArg (fun v=>some (AV.int .u8 v)) (FM HT hca)
theorem jJ {k:IntKind}{a:Int}(hx:ev env x = .int k a)(h0:0≤a)(k1:aj F r Q (env.put d (.int .u8 (a%256))) h):aj F (⟨some d,.conv .u8 x,none⟩::r) Q env h:=by
 have:IntKind.u8.wrap a=a%256:=by simp[IntKind.wrap,IntKind.bits,IntKind.signed]
 simp[hx,this,k1]
theorem tL {k:IntKind}{a:Int}(hx:ev env x = .int k a)(h0 : -2147483648≤a)(h1:a≤2147483647)(k1:aj F r Q (env.put d (.int .i32 a)) h):aj F (⟨some d,.conv .i32 x,none⟩::r) Q env h:=by
 have:IntKind.i32.wrap a=a:=by simp[IntKind.wrap,IntKind.bits,IntKind.signed];omega
 simp[hx,this,k1]
theorem nY {k:IntKind}{a:Int}(hx:ev env x = .int k a)(h0:0≤a)(h1:a≤4294967295)(k1:aj F r Q (env.put d (.int .u32 a)) h):aj F (⟨some d,.conv .u32 x,none⟩::r) Q env h:=by
 have:IntKind.u32.wrap a=a:=by simp[IntKind.wrap,IntKind.bits,IntKind.signed];omega
 simp[hx,this,k1]
theorem C7 {a:Int}(hx:ev env x = .int .i64 a)(hy:ev env y = .int .i64 63)(h0:0≤a)(h1:a≤1114111)(k1:aj F r Q (env.put d (.int .i64 (a%64))) h):aj F (⟨some d,.bin .and x y,none⟩::r) Q env h:=by
 have e:=qN (k := .i64) (a:=a) (m:=63) (j:=6) (by decide) rfl h0 (by show a<18446744073709551616;omega)
 refine iY hx hy ?_ k1
 show some (AV.int .i64 (IntKind.i64.wrap _))=_
 rw[e]
 exact congrArg (fun v=>some (AV.int .i64 v)) (lP (by show 0≤a%64;omega) (by show a%64≤_;omega))
theorem wB {a:Int}(hx:ev env x = .int .i64 a)(hy:ev env y = .int .i64 63)(h0:0≤a)(h1:a≤1114111)(k1:aj F r Q (env.put d (.int .i64 (a / 64*64))) h):aj F (⟨some d,.bin .andNot x y,none⟩::r) Q env h:=by
 have e:=vu (k := .i64) (a:=a) (m:=63) (j:=6) (by decide) rfl h0 (by show a<18446744073709551616;omega)
 refine iY hx hy ?_ k1
 show some (AV.int .i64 (IntKind.i64.wrap _))=_
 rw[e]
 exact congrArg (fun v=>some (AV.int .i64 v)) (lP (by show 0≤a / 64*64;omega) (by show a / 64*64≤_;omega))
theorem E0 {a:Int}(hx:ev env x = .int .i64 a)(hy:ev env y = .int .i64 63)(h0:0≤a)(h1:a≤1114111)(k1:aj F r Q (env.put d (.int .i64 (a / 64*64+63))) h):aj F (⟨some d,.bin .or x y,none⟩::r) Q env h:=by
 have e:=yB (k := .i64) (a:=a) (m:=63) (j:=6) (by decide) rfl h0 (by show a<18446744073709551616;omega)
 refine iY hx hy ?_ k1
 show some (AV.int .i64 (IntKind.i64.wrap _))=_
 rw[e]
 exact congrArg (fun v=>some (AV.int .i64 v)) (lP (by show 0≤a / 64*64+63;omega) (by show a / 64*64+63≤_;omega))
theorem yi {a:Int}(hx:ev env x = .int .i64 a)(hy:ev env y = .int .i64 4095)(h0:0≤a)(h1:a≤1114111)(k1:aj F r Q (env.put d (.int .i64 (a%4096))) h):aj F (⟨some d,.bin .and x y,none⟩::r) Q env h:=by
 have e:=qN (k := .i64) (a:=a) (m:=4095) (j:=12) (by decide) rfl h0 (by show a<18446744073709551616;omega)
 refine iY hx hy ?_ k1
 show some (AV.int .i64 (IntKind.i64.wrap _))=_
 rw[e]
 exact congrArg (fun v=>some (AV.int .i64 v)) (lP (by show 0≤a%4096;omega) (by show a%4096≤_;omega))
theorem sS {a:Int}(hx:ev env x = .int .i64 a)(hy:ev env y = .int .i64 4095)(h0:0≤a)(h1:a≤1114111)(k1:aj F r Q (env.put d (.int .i64 (a / 4096*4096))) h):aj F (⟨some d,.bin .andNot x y,none⟩::r) Q env h:=by
 have e:=vu (k := .i64) (a:=a) (m:=4095) (j:=12) (by decide) rfl h0 (by show a<18446744073709551616;omega)
 refine iY hx hy ?_ k1
 show some (AV.int .i64 (IntKind.i64.wrap _))=_
 rw[e]
 exact congrArg (fun v=>some (AV.int .i64 v)) (lP (by show 0≤a / 4096*4096;omega) (by show a / 4096*4096≤_;omega))
theorem At {a:Int}(hx:ev env x = .int .i64 a)(hy:ev env y = .int .i64 4095)(h0:0≤a)(h1:a≤1114111)(k1:aj F r Q (env.put d (.int .i64 (a / 4096*4096+4095))) h):aj F (⟨some d,.bin .or x y,none⟩::r) Q env h:=by
 have e:=yB (k := .i64) (a:=a) (m:=4095) (j:=12) (by decide) rfl h0 (by show a<18446744073709551616;omega)
 refine iY hx hy ?_ k1
 show some (AV.int .i64 (IntKind.i64.wrap _))=_
 rw[e]
 exact congrArg (fun v=>some (AV.int .i64 v)) (lP (by show 0≤a / 4096*4096+4095;omega) (by show a / 4096*4096+4095≤_;omega))
theorem uT {a:Int}(hx:ev env x = .int .i64 a)(hy:ev env y = .int .i64 262143)(h0:0≤a)(h1:a≤1114111)(k1:aj F r Q (env.put d (.int .i64 (a%262144))) h):aj F (⟨some d,.bin .and x y,none⟩::r) Q env h:=by
 have e:=qN (k := .i64) (a:=a) (m:=262143) (j:=18) (by decide) rfl h0 (by show a<18446744073709551616;omega)
 refine iY hx hy ?_ k1
 show some (AV.int .i64 (IntKind.i64.wrap _))=_
 rw[e]
 exact congrArg (fun v=>some (AV.int .i64 v)) (lP (by show 0≤a%262144;omega) (by show a%262144≤_;omega))
theorem qx {a:Int}(hx:ev env x = .int .i64 a)(hy:ev env y = .int .i64 262143)(h0:0≤a)(h1:a≤1114111)(k1:aj F r Q (env.put d (.int .i64 (a / 262144*262144))) h):aj F (⟨some d,.bin .andNot x y,none⟩::r) Q env h:=by
 have e:=vu (k := .i64) (a:=a) (m:=262143) (j:=18) (by decide) rfl h0 (by show a<18446744073709551616;omega)
 refine iY hx hy ?_ k1
 show some (AV.int .i64 (IntKind.i64.wrap _))=_
 rw[e]
 exact congrArg (fun v=>some (AV.int .i64 v)) (lP (by show 0≤a / 262144*262144;omega) (by show a / 262144*262144≤_;omega))
theorem wu {a:Int}(hx:ev env x = .int .i64 a)(hy:ev env y = .int .i64 262143)(h0:0≤a)(h1:a≤1114111)(k1:aj F r Q (env.put d (.int .i64 (a / 262144*262144+262143))) h):aj F (⟨some d,.bin .or x y,none⟩::r) Q env h:=by
 have e:=yB (k := .i64) (a:=a) (m:=262143) (j:=18) (by decide) rfl h0 (by show a<18446744073709551616;omega)
 refine iY hx hy ?_ k1
 show some (AV.int .i64 (IntKind.i64.wrap _))=_
 rw[e]
 exact congrArg (fun v=>some (AV.int .i64 v)) (lP (by show 0≤a / 262144*262144+262143;omega) (by show a / 262144*262144+262143≤_;omega))
end
end
section
open Go
set_option maxHeartbeats 4000000
attribute [local irreducible] aj bc bj dn bz cn dz bL wop cq aU
@[reducible] def iy (l:List Int)(fl:Bool):AV := .rd l.length (l.map (.int .u8)) fl
@[simp] theorem HB (l:List Int):AV.frozenL (l.map (AV.int .u8))=true:=dQ (fun r=>by simp[AV.frozen]) l
theorem CR {Φ:Lib}(L:em Φ)(r:Int)(h0:0≤r)(h1:r≤1114111):ia Φ 294 [.int .i32 r] (.bool (eI r)):=by
 refine bb (fun _=>false) rfl L.f294 ?_
 have hs:eI r=decide (r<55296∨57343<r):=by
  by_cases h:r<55296∨57343<r
  ·rw[decide_eq_true h];exact er.2 ⟨h0,h1,h⟩
  ·rw[decide_eq_false h]
   cases e:eI r with
   | false=>rfl
   | true=>exact absurd (er.1 e).2.2 h
 rw[hs]
 repeat' first|apply ad|(apply gw;first|(apply gq0;first|refine aw rfl ?_|refine bV rfl ?_)|(apply gq1;first|refine cI rfl ?_|refine cD rfl ?_)|(apply gq3;first|((first|refine aB rfl rfl rfl ?_ ?_|refine kj rfl rfl rfl ?_ ?_)<;>(intro hc;try omega)))|(apply gq7;first|refine bU rfl rfl ?_|refine bh rfl rfl ?_))|(apply gx;first|apply af|refine ae rfl ?_|apply ay|apply au|apply aM|refine al rfl ?_|refine ah rfl ?_)|apply ac|apply cz|apply aJ|apply jB
 all_goals first
  | exact aH (v := .bool true) rfl (by rw[decide_eq_true HT])
  | exact aH (v := .bool false) rfl (by rw[decide_eq_false HT])
  | trace_state
set_option maxRecDepth 100000 in
theorem w9 {Φ:Lib}(L:em Φ)(r:Int)(h0:128≤r)(h1:r≤1114111)(hs:eI r=true):ia Φ 307 [.rd 0 [] true,.int .i32 r] (iy (bG r) false):=by
 have hsc:=(er.1 hs).2.2
 refine bb (fun _=>false) rfl L.f307 ?_
 repeat' first|apply ad|(apply gw;first|(apply gq0;first|refine aw rfl ?_|refine bV rfl ?_|refine bm rfl ?_|refine ai rv_ ?_)|refine cD rfl ?_|(apply gq3;first|((first|refine aB rfl rfl rfl ?_ ?_|refine kj rfl rfl rfl ?_ ?_|refine dS rfl rfl rfl ?_ ?_)<;>(intro hc;try omega))|refine yb (m:=64) rfl rfl HT rfl HT HT ?_|refine yb (m:=4096) rfl rfl HT rfl HT HT ?_|refine yb (m:=262144) rfl rfl HT rfl HT HT ?_|refine E3 rfl rfl HT HT ?_|refine ye (j:=6) rfl rfl (by decide) HT (by show _<(64:Int);omega) HT HT ?_|refine ye (j:=5) rfl rfl (by decide) HT (by show _<(32:Int);omega) HT HT ?_|refine ye (j:=4) rfl rfl (by decide) HT (by show _<(16:Int);omega) HT HT ?_)|refine bU rfl rfl ?_|(refine br rv_ ir_ rfl HU (by first|omega|(simp;omega)) ?_;intro va hpa hra hka hria)|(apply Hm;first|refine bF (cs:=[AV.int _ _,AV.int _ _]) rfl rfl ?_|refine bF (cs:=[AV.int _ _,AV.int _ _,AV.int _ _,AV.int _ _]) rfl rfl ?_|refine bF rfl rfl ?_)|(apply Gy;first|refine jJ rfl HT ?_|refine nY rfl HT HT ?_))|(apply gx;first|apply af|refine ae rfl ?_|apply ay|apply au|apply aM|refine al rfl ?_|refine ah rfl ?_)|apply ac|apply jB
 ·refine iF rfl (show aA hpa va 1 2 [AV.int .u8 (192+r / 64%256),AV.int .u8 (128+r%256%64)] from hra) (fun _=>?_)
  rw[qn HT HT,show 192+r / 64%256=192+r / 64 by omega,show 128+r%256%64=128+r%64 by omega]
  rfl
 ·refine iF rfl (show aA hpa va 1 3 [AV.int .u8 (224+r / 4096%256),AV.int .u8 (128+r / 64%256%64),AV.int .u8 (128+r%256%64)] from hra) (fun _=>?_)
  rw[pa HT HT,show 224+r / 4096%256=224+r / 4096 by omega,show 128+r / 64%256%64=128+r / 64%64 by omega,show 128+r%256%64=128+r%64 by omega]
  rfl
 ·refine iF rfl (show aA hpa va 1 3 [AV.int .u8 (224+r / 4096%256),AV.int .u8 (128+r / 64%256%64),AV.int .u8 (128+r%256%64)] from hra) (fun _=>?_)
  rw[pa HT HT,show 224+r / 4096%256=224+r / 4096 by omega,show 128+r / 64%256%64=128+r / 64%64 by omega,show 128+r%256%64=128+r%64 by omega]
  rfl
 ·refine iF rfl (show aA hpa va 1 4 [AV.int .u8 (240+r / 262144%256),AV.int .u8 (128+r / 4096%256%64),AV.int .u8 (128+r / 64%256%64),AV.int .u8 (128+r%256%64)] from hra) (fun _=>?_)
  rw[qm HT,show 240+r / 262144%256=240+r / 262144 by omega,show 128+r / 4096%256%64=128+r / 4096%64 by omega,show 128+r / 64%256%64=128+r / 64%64 by omega,show 128+r%256%64=128+r%64 by omega]
  rfl
theorem ED {Φ:Lib}(L:em Φ)(r:Int)(h0:0≤r)(h1:r≤1114111)(hs:eI r=true):ia Φ 295 [.rd 0 [] true,.int .i32 r] (iy (bG r) false):=by
 refine bb (fun _=>false) rfl L.f295 ?_
 by_cases h:r<128
 ·repeat' first|apply ad|(apply gw;first|(apply gq0;first|refine aw rfl ?_|refine bm rfl ?_|refine ai rv_ ?_)|(refine kj rfl rfl rfl ?_ ?_<;>(intro hc;try omega))|(refine br (m:=1) rv_ ir_ rfl rfl HT ?_;intro va hpa hra hka hria)|refine bF (cs:=[AV.int _ _]) rfl rfl ?_|(apply Gy;first|refine jJ rfl HT ?_|refine nY rfl HT HT ?_))|(apply gx;first|apply af|refine ae rfl ?_|apply aM|refine al rfl ?_)|apply ac|apply cz
  refine iF rfl (show aA hpa va 1 1 [AV.int .u8 (r%256)] from hra) (fun _=>?_)
  rw[qo h,show r%256=r by omega]
  rfl
 ·have k:=w9 L r HT h1 hs
  repeat' first|apply ad|(apply gw;first|(apply gq0;first|refine aw rfl ?_|refine bm rfl ?_)|(refine kj rfl rfl rfl ?_ ?_<;>(intro hc;try omega))|refine aL rfl nt_ ?_|refine nY rfl HT HT ?_)|(apply gx;first|apply af|refine ae rfl ?_|apply ay|apply aM|refine ah rfl ?_)|apply ac|refine bu (by assumption) fz_ fz_ ?_
  exact aH (v:=iy (bG r) false) rfl rfl
def sl (r:Int):AV:=if eI r=true then iy (bG r) false else .rd 0 [] true
theorem pM {Φ:Lib}(L:em Φ)(r:Int):ia Φ 277 [.int .i64 r] (sl r):=by
 refine bb (fun _=>false) rfl L.f277 ?_
 have hno:¬ (0≤r∧r≤1114111)→eI r=false:=fun h=>by
  cases e:eI r with
  | false=>rfl
  | true=>have:=er.1 e;omega
 by_cases h0:r<0
 ·have e:=hno HT
  repeat' first|apply ad|(apply gw;first|(apply gq0;first|refine aw rfl ?_|refine bV rfl ?_|refine bm rfl ?_)|refine cI rfl ?_|(refine aB rfl rfl rfl ?_ ?_<;>(intro hc;try omega))|refine bU rfl rfl ?_)|(apply gx;first|apply af|refine ae rfl ?_|apply aM|refine al rfl ?_)|apply ac|apply cz
  all_goals exact aH (v := .rd 0 [] true) rfl (by unfold sl;rw[e];rfl)
 by_cases h1:1114111<r
 ·have e:=hno HT
  repeat' first|apply ad|(apply gw;first|(apply gq0;first|refine aw rfl ?_|refine bV rfl ?_|refine bm rfl ?_)|(apply gq1;first|refine cI rfl ?_|refine cD rfl ?_)|(apply gq3;first|((first|refine aB rfl rfl rfl ?_ ?_|refine dS rfl rfl rfl ?_ ?_)<;>(intro hc;try omega)))|(apply gq7;first|refine bU rfl rfl ?_|refine bh rfl rfl ?_))|(apply gx;first|apply af|refine ae rfl ?_|apply aM|refine al rfl ?_)|apply ac|apply cz
  all_goals exact aH (v := .rd 0 [] true) rfl (by unfold sl;rw[e];rfl)
 have k1:=CR L r HT HT
 cases hs:eI r with
 | false =>
  rw[hs]at k1
  repeat' first|apply ad|(apply gw;first|(apply gq0;first|refine aw rfl ?_|refine bV rfl ?_|refine bm rfl ?_)|refine cD rfl ?_|(apply gq3;first|((first|refine aB rfl rfl rfl ?_ ?_|refine dS rfl rfl rfl ?_ ?_)<;>(intro hc;try omega)))|refine bh rfl rfl ?_|refine aL rfl nt_ ?_|refine dm (b:=false) rfl ?_|refine tL rfl HT HT ?_)|(apply gx;first|apply af|refine ae rfl ?_|apply aM|refine al rfl ?_)|apply ac|apply cz|refine bu (by assumption) fz_ fz_ ?_
  all_goals exact aH (v := .rd 0 [] true) rfl (by unfold sl;rw[hs];rfl)
 | true =>
  rw[hs]at k1
  have k2:=ED L r HT HT hs
  repeat' first|apply ad|(apply gw;first|(apply gq0;first|refine aw rfl ?_|refine bV rfl ?_|refine bm rfl ?_)|refine cD rfl ?_|(apply gq3;first|((first|refine aB rfl rfl rfl ?_ ?_|refine dS rfl rfl rfl ?_ ?_)<;>(intro hc;try omega)))|refine bh rfl rfl ?_|refine aL rfl nt_ ?_|refine dm (b:=true) rfl ?_|refine tL rfl HT HT ?_)|(apply gx;first|apply af|refine ae rfl ?_|apply ay|apply aM|refine ah rfl ?_)|apply ac|refine bu (by assumption) fz_ fz_ ?_
  all_goals exact aH (v:=iy (bG r) false) rfl (by unfold sl;rw[hs];rfl)
end
section
open Go
set_option maxHeartbeats 4000000
attribute [local irreducible] aj bc bj dn bz cn dz bL wop cq aU
def lvY (k:Nat):Int:=if k=1 then 64 else if k=2 then 4096 else 262144
theorem BQ {n k:Nat}(h1:1≤k)(h2:k<n)(h3:n≤4):(gP n).drop (k-1)=lvY k::(gP n).drop k:=by
 have:(n=2∧k=1)∨(n=3∧k=1)∨(n=3∧k=2)∨(n=4∧k=1)∨(n=4∧k=2)∨(n=4∧k=3):=by omega
 rcases this with⟨rfl,rfl⟩|⟨rfl,rfl⟩|⟨rfl,rfl⟩|⟨rfl,rfl⟩|⟨rfl,rfl⟩|⟨rfl,rfl⟩<;>rfl
theorem BS (n:Nat):(gP n).drop (n-1)=[]:=by
 unfold gP
 split<;>simp
set_option maxRecDepth 100000 in
theorem BU {Φ:Lib}(L:em Φ)(s:am)(h0:0≤s.lo)(hle:s.lo≤s.hi)(h1:s.hi≤1114111)(hs:eI s.lo=true):ia Φ 292 [.agg s.av] (.int .i64 (d3 s)):=by
 have ke:=pM L s.lo
 have e:sl s.lo=iy (bG s.lo) false:=by unfold sl;rw[if_pos hs]
 rw[e]at ke
 have hl:=dI s.lo
 have hr:=de s.lo
 refine bb (fun _=>false) rfl L.f292 ?_
 repeat' first|apply ad|(apply gw;first|refine aw rfl ?_|refine ak rfl hg_ HU b_ pv_ ?_|refine aq rfl (Nat.zero_add _) ?_|refine aD rfl ?_|refine aL rfl nt_ ?_|(refine gJ (v:=AV.agg _) rfl rfl ?_;intro id hid;try simp only[aa.set_none]at hid))|(apply gx;first|apply af|refine ae rfl ?_|apply au)|apply ac|refine bu (by assumption) fz_ fz_ ?_
 rw[hl]
 obtain⟨ib,rfl⟩:∃ x,x=id:=⟨_,rfl⟩
 refine ic (fun m env h'=>∃ k:Nat,m=bq s.lo-k∧1≤k∧k≤bq s.lo∧eQ ((gP (bq s.lo)).drop (k-1)) s=d3 s∧h'.get ib=some (.cells 0 s.av)∧env.has [(1,.ptr ib 0 0),(3,.int .i64 (bq s.lo)),(4,.int .i64 k)]) _ ⟨1,rfl,Nat.le_refl _,hr.1,rfl,aa.get_set_self _ _ _,hh_⟩ ?_
 clear hid
 rintro m env h' ⟨k,rfl,hk1,hk2,hpl,hb,he⟩
 obtain⟨env,rfl⟩:=he.ex
 clear he
 by_cases hk3:k<bq s.lo
 ·rw[BQ hk1 hk3 hr.2]at hpl
  unfold eQ at hpl
  have hkk:k=1∨k=2∨k=3:=by omega
  rcases hkk with rfl|rfl|rfl
  ·rw[show lvY 1=64 from rfl]at hpl
   repeat' first|apply ad|(apply gw;first|(apply gq0;first|refine aw rfl ?_|refine bV rfl ?_)|refine ak rfl hg_ HU b_ pv_ ?_|(apply gq3;first|refine a8 rfl rfl rfl HT HT ?_|refine iq rfl rfl rfl HT HT ?_|((first|refine aB rfl rfl rfl ?_ ?_|refine dD rfl rfl rfl ?_ ?_|refine eM rfl rfl rfl ?_ ?_)<;>(intro hc;try omega))|refine yf rfl rfl rfl HT HT ?_|refine yc (v:=64) rfl rfl HT rfl ?_|refine C7 rfl rfl HT HT ?_|refine wB rfl rfl HT HT ?_|refine E0 rfl rfl HT HT ?_)|refine aq rfl (Nat.zero_add _) ?_)|(apply gx;first|apply af|refine ae rfl ?_|apply ay|apply au|apply aM|apply aP|refine al rfl ?_|refine ah rfl ?_)|apply ac|apply cz|apply aQ|apply aJ|apply jB|apply aR|apply kD
   all_goals first
    | (
     refine aH (v := .int .i64 (s.lo / 64*64+63+1)) rfl ?_
     rw[← hpl,if_neg HT,if_pos HT]
     exact congrArg (AV.int .i64) HT)
    | (
     refine aH (v := .int .i64 (s.hi / 64*64)) rfl ?_
     rw[← hpl,if_neg HT,if_neg HT,if_pos HT])
    | (
     refine fo (bq s.lo-2) HT ⟨2,rfl,by omega,by omega,?_,hb,hh_⟩
     first
      | (rw[if_pos HT]at hpl;exact hpl)
      | (rw[if_neg HT,if_neg HT,if_neg HT]at hpl;exact hpl))
  ·rw[show lvY 2=4096 from rfl]at hpl
   repeat' first|apply ad|(apply gw;first|(apply gq0;first|refine aw rfl ?_|refine bV rfl ?_)|refine ak rfl hg_ HU b_ pv_ ?_|(apply gq3;first|refine a8 rfl rfl rfl HT HT ?_|refine iq rfl rfl rfl HT HT ?_|((first|refine aB rfl rfl rfl ?_ ?_|refine dD rfl rfl rfl ?_ ?_|refine eM rfl rfl rfl ?_ ?_)<;>(intro hc;try omega))|refine yf rfl rfl rfl HT HT ?_|refine yc (v:=4096) rfl rfl HT rfl ?_|refine yi rfl rfl HT HT ?_|refine sS rfl rfl HT HT ?_|refine At rfl rfl HT HT ?_)|refine aq rfl (Nat.zero_add _) ?_)|(apply gx;first|apply af|refine ae rfl ?_|apply ay|apply au|apply aM|apply aP|refine al rfl ?_|refine ah rfl ?_)|apply ac|apply cz|apply aQ|apply aJ|apply jB|apply aR|apply kD
   all_goals first
    | (
     refine aH (v := .int .i64 (s.lo / 4096*4096+4095+1)) rfl ?_
     rw[← hpl,if_neg HT,if_pos HT]
     exact congrArg (AV.int .i64) HT)
    | (
     refine aH (v := .int .i64 (s.hi / 4096*4096)) rfl ?_
     rw[← hpl,if_neg HT,if_neg HT,if_pos HT])
    | (
     refine fo (bq s.lo-3) HT ⟨3,rfl,by omega,by omega,?_,hb,hh_⟩
     first
      | (rw[if_pos HT]at hpl;exact hpl)
      | (rw[if_neg HT,if_neg HT,if_neg HT]at hpl;exact hpl))
  ·rw[show lvY 3=262144 from rfl]at hpl
   repeat' first|apply ad|(apply gw;first|(apply gq0;first|refine aw rfl ?_|refine bV rfl ?_)|refine ak rfl hg_ HU b_ pv_ ?_|(apply gq3;first|refine a8 rfl rfl rfl HT HT ?_|refine iq rfl rfl rfl HT HT ?_|((first|refine aB rfl rfl rfl ?_ ?_|refine dD rfl rfl rfl ?_ ?_|refine eM rfl rfl rfl ?_ ?_)<;>(intro hc;try omega))|refine yf rfl rfl rfl HT HT ?_|refine yc (v:=262144) rfl rfl HT rfl ?_|refine uT rfl rfl HT HT ?_|refine qx rfl rfl HT HT ?_|refine wu rfl rfl HT HT ?_)|refine aq rfl (Nat.zero_add _) ?_)|(apply gx;first|apply af|refine ae rfl ?_|apply ay|apply au|apply aM|apply aP|refine al rfl ?_|refine ah rfl ?_)|apply ac|apply cz|apply aQ|apply aJ|apply jB|apply aR|apply kD
   all_goals first
    | (
     refine aH (v := .int .i64 (s.lo / 262144*262144+262143+1)) rfl ?_
     rw[← hpl,if_neg HT,if_pos HT]
     exact congrArg (AV.int .i64) HT)
    | (
     refine aH (v := .int .i64 (s.hi / 262144*262144)) rfl ?_
     rw[← hpl,if_neg HT,if_neg HT,if_pos HT])
    | (
     refine fo (bq s.lo-4) HT ⟨4,rfl,by omega,by omega,?_,hb,hh_⟩
     first
      | (rw[if_pos HT]at hpl;exact hpl)
      | (rw[if_neg HT,if_neg HT,if_neg HT]at hpl;exact hpl))
 ·have hk4:k=bq s.lo:=by omega
  subst hk4
  rw[BS]at hpl
  repeat' first|apply ad|(apply gw;first|refine aw rfl ?_|(refine aB rfl rfl rfl ?_ ?_<;>(intro hc;try omega)))|(apply gx;first|apply af|refine ae rfl ?_|apply aM|apply aP|refine ah rfl ?_)|apply ac|apply aQ|apply aR|apply ba
  refine aH (v := .int .i64 0) rfl ?_
  rw[← hpl]
  rfl
end
section
open Go
set_option maxHeartbeats 4000000
attribute [local irreducible] aj bc bj dn bz cn dz bL wop cq aU
def Ft:List Int:=[127,2047,65535,1114111]
def DV:List Int:=[0,128,2048,65536,1114112]
theorem Fs {j:Nat}(h:j<4):∃ p,ii[j]?=some p∧Ft[j]?=some p.2∧DV.getD j 0=p.1∧DV.getD (j+1) 0=p.2+1∧0≤p.1∧p.2≤1114111∧0≤p.2:=by
 have:j=0∨j=1∨j=2∨j=3:=by omega
 rcases this with rfl|rfl|rfl|rfl
 ·exact⟨_,rfl,rfl,rfl,rfl,by decide,by decide,by decide⟩
 ·exact⟨_,rfl,rfl,rfl,rfl,by decide,by decide,by decide⟩
 ·exact⟨_,rfl,rfl,rfl,rfl,by decide,by decide,by decide⟩
 ·exact⟨_,rfl,rfl,rfl,rfl,by decide,by decide,by decide⟩
def qA (s:am)(p:Int×Int):Option am:=if max s.lo p.1≤min s.hi p.2 then some ⟨max s.lo p.1,min s.hi p.2⟩ else none
theorem AA (s:am):cJ s=ii.filterMap (qA s):=rfl
theorem ym (s:am):(cJ s).length≤4:=by
 unfold cJ
 exact Nat.le_trans (List.length_filterMap_le _ _) (by simp[ii])
theorem tQ (l:List am):(l.flatMap cJ).length≤4*l.length:=by
 induction l with
 | nil=>simp
 | cons s l ih =>
  have:=ym s
  rw[List.flatMap_cons,List.length_append,List.length_cons]
  omega
theorem Ch {Φ:Lib}(L:em Φ):ia Φ 293 [] (.rd 4 (Ft.map (.int .i64)) true):=by
 refine bb (fun _=>false) rfl L.f293 ?_
 repeat' first|apply ad|(apply gw;first|refine bm rfl ?_|refine bF (cs:=[AV.int _ _,AV.int _ _,AV.int _ _,AV.int _ _]) rfl rfl ?_)|(apply gx;first|apply af|refine ae rfl ?_|apply aM)|apply ac
 exact aH (v := .rd 4 (Ft.map (.int .i64)) true) rfl rfl
set_option maxRecDepth 100000 in
theorem Cz {Φ:Lib}(L:em Φ)(l:List am)(fl:Bool)(hl:l.length≤1048576):ia Φ 276 [.rd l.length (l.flatMap am.av) fl] (.rd (l.flatMap cJ).length ((l.flatMap cJ).flatMap am.av) false):=by
 have kl:=Ch L
 refine bb (fun _=>false) rfl L.f276 ?_
 repeat' first|apply ad|(apply gw;first|(apply gq0;first|refine aw rfl ?_|refine bm rfl ?_)|refine aD rfl ?_)|(apply gx;first|apply af|refine ae rfl ?_|apply au)|apply ac
 refine cl l.length (fun i env h'=>∃ v,Sep h' [jA aa.empty,cP v 2 ((l.take i).flatMap cJ).length (((l.take i).flatMap cJ).flatMap am.av)]∧env.has [(3,v),(10,.rd l.length (l.flatMap am.av) fl),(11,.int .i64 l.length),(12,.int .i64 i)]) ⟨_,(Sep.old aa.empty).nil 2,hh_⟩ ?_
 rintro i env h' hi ⟨v,hS,he⟩
 have hrow:aA h' v 2 _ _:=hS.get (i:=1) rfl
 obtain⟨env,rfl⟩:=he.ex
 clear he
 by_cases hi2:i<l.length
 ·obtain⟨s,hs⟩:=aK hi2
  clear hrow
  repeat' first|apply ad|(apply gw;first|refine aw rfl ?_|refine iH rfl (by first|rfl|(simp[*];done)|fail) ?_|(refine aB rfl rfl rfl ?_ ?_<;>(intro hc;try omega))|refine fR rfl fl_ rfl hs HT rfl ?_|refine aD rfl ?_|refine aL rfl nt_ ?_|(refine cd ?_;intro id hid;try simp only[aa.set_none]at hid)|refine cy (cs':=[AV.int _ _,AV.int _ _]) rfl rfl rfl rfl b_ rfl ?_)|(apply gx;first|apply af|refine ae rfl ?_|apply ay|apply au|refine al rfl ?_)|apply ac|refine bu (by assumption) fz_ fz_ ?_
  obtain⟨i5,rfl⟩:∃ x,x=id:=⟨_,rfl⟩
  have hS1:=hS.new (o := .cells 0 s.av) hid
  clear hS hid
  refine cl 4 (fun j env h'=>∃ v,Sep h' [jA aa.empty,cP v 2 ((l.take i).flatMap cJ++(ii.take j).filterMap (qA s)).length (((l.take i).flatMap cJ++(ii.take j).filterMap (qA s)).flatMap am.av),ck i5 (.cells 0 s.av)]∧env.has [(3,v),(5,.ptr i5 0 0),(6,.int .i64 (DV.getD j 0)),(10,.rd l.length (l.flatMap am.av) fl),(11,.int .i64 l.length),(12,.int .i64 i),(16,.rd 4 (Ft.map (.int .i64)) true),(17,.int .i64 4),(18,.int .i64 j)]) ⟨v,by rw[List.take_zero,List.filterMap_nil,List.append_nil];exact hS1,hh_⟩ ?_
  clear hS1
  rintro j env h' hj ⟨v,hS,he⟩
  have h5:h'.get i5=some (.cells 0 s.av):=hS.get (i:=2) rfl
  have hrow:aA h' v 2 _ _:=hS.get (i:=1) rfl
  obtain⟨env,rfl⟩:=he.ex
  clear he
  by_cases hj2:j<4
  ·obtain⟨p,hp,hx,hf1,hf2,hb1,hb2,hb3⟩:=Fs hj2
   have hlen:((l.take i).flatMap cJ++(ii.take j).filterMap (qA s)).length≤4194308:=by
    have q1:=tQ (l.take i)
    have q2:(l.take i).length≤l.length:=by rw[List.length_take];omega
    have q3:=List.length_filterMap_le (qA s) (ii.take j)
    have q4:(ii.take j).length≤4:=by rw[List.length_take];simp[ii];omega
    rw[List.length_append]
    omega
   rw[hf1]
   repeat' first|apply ad|(apply gw;first|(apply gq0;first|refine aw rfl ?_|refine ai rv_ ?_)|(apply gq2;first|refine aI rfl b_ pv_ ?_|refine ak rfl hg_ HU b_ pv_ ?_)|(apply gq3;first|refine a8 rfl rfl rfl HT HT ?_|((first|refine aB rfl rfl rfl ?_ ?_|refine kj rfl rfl rfl ?_ ?_)<;>(intro hc;try omega)))|refine aq rfl (Nat.zero_add _) ?_|refine ar rfl rfl hx HT rfl ?_|(refine cd ?_;intro id hid;try simp only[aa.set_none]at hid)|refine cy (cs':=[AV.int _ _,AV.int _ _]) rfl rfl rfl rfl b_ rfl ?_|(refine br (m:=1) rv_ ir_ rfl rfl HT ?_;intro va hpa hra hka hria)|refine dE (cs:=[AV.int _ _,AV.int _ _]) rfl ?_|refine bF (cs:=[AV.int _ _,AV.int _ _]) rfl rfl ?_|refine C0 rfl rfl rfl ?_|refine FR rfl rfl rfl ?_)|(apply gx;first|apply af|refine ae rfl ?_|apply ay|apply au|refine al rfl ?_|refine ah rfl ?_)|apply ac|apply aJ
   ·have hq:qA s p=some ⟨max s.lo p.1,min s.hi p.2⟩:=if_pos hc
    have e1:(ii.take (j+1)).filterMap (qA s)=(ii.take j).filterMap (qA s)++[⟨max s.lo p.1,min s.hi p.2⟩]:=by
     rw[aX hp,List.filterMap_append]
     simp[List.filterMap_cons,hq]
    have hS1:=hS.new (o := .cells 0 [.int .i64 (max s.lo p.1),.int .i64 (min s.hi p.2)]) hid
    have hS2:=hS1.upd 1 (cP va 2 _ _) rfl hra hka hria
    have hS3:=hS2.drop 3 (h':=hpa) rfl (fun _ _=>rfl)
    refine aW hj2 ⟨va,?_,?_⟩
    ·rw[e1,← List.append_assoc,List.length_append (bs:=[_]),List.flatMap_append]
     exact hS3
    ·rw[hf2]
     exact hh_
   ·have hq:qA s p=none:=if_neg hc
    have e1:(ii.take (j+1)).filterMap (qA s)=(ii.take j).filterMap (qA s):=by
     rw[aX hp,List.filterMap_append]
     simp[List.filterMap_cons,hq]
    have hS1:=hS.new (o := .cells 0 [.int .i64 (max s.lo p.1),.int .i64 (min s.hi p.2)]) hid
    have hS3:=hS1.drop 3 (h':=h'.set id (.cells 0 [.int .i64 (max s.lo p.1),.int .i64 (min s.hi p.2)])) rfl (fun _ _=>rfl)
    refine aW hj2 ⟨v,?_,?_⟩
    ·rw[e1]
     exact hS3
    ·rw[hf2]
     exact hh_
  ·have hS3:=hS.drop 2 (h':=h') rfl (fun _ _=>rfl)
   have e4:ii.take j=ii:=List.take_of_length_le (by simp[ii];omega)
   have e5:(l.take (i+1)).flatMap cJ=(l.take i).flatMap cJ++(ii.take j).filterMap (qA s):=by
    rw[aX hs,List.flatMap_append,e4]
    simp[AA]
   repeat' first|apply ad|(apply gw;first|refine aw rfl ?_|(apply gq3;first|refine a8 rfl rfl rfl HT HT ?_|(refine aB rfl rfl rfl ?_ ?_<;>(intro hc;try omega))))|(apply gx;first|apply af|refine ae rfl ?_|apply aP|refine ah rfl ?_)|apply ac|apply aQ|apply aJ|apply aR|apply ba
   refine aW hi2 ⟨v,?_,hh_⟩
   rw[e5]
   exact hS3
 ·repeat' first|apply ad|(apply gw;first|refine ai rv_ ?_|(refine aB rfl rfl rfl ?_ ?_<;>(intro hc;try omega)))|(apply gx;first|apply af|refine ae rfl ?_|apply aM|apply aP|refine ah rfl ?_)|apply ac|apply aQ|apply aR|apply ba
  refine iF rfl hrow (fun _=>?_)
  rw[List.take_of_length_le HT]
end
end Go.Proofs.YtlnobeojgifojaaGreatDoor
