/- Steps of bits. -/
import Derived.Test.YtlnobeojgifojaaGreatDoorE1
import Derived.Test.YtlnobeojgifojaaGreatDoorCF
import Derived.Test.YtlnobeojgifojaaGreatDoorWC
import Derived.Test.YtlnobeojgifojaaGreatDoorD7
import Derived.Test.YtlnobeojgifojaaGreatDoorO2
set_option linter.unusedVariables false
set_option linter.unusedSimpArgs false
namespace Go.Proofs.YtlnobeojgifojaaGreatDoor
section
open Go
theorem JK {r j:Nat}(h:r<2 ^ j):r ||| (2 ^ j-1)=2 ^ j-1:=by
 apply Nat.eq_of_testBit_eq
 intro i
 rw[Nat.testBit_or,Nat.testBit_two_pow_sub_one]
 by_cases hi:i<j
 ·simp[hi]
 ·have:r.testBit i=false:=Nat.testBit_lt_two_pow (Nat.lt_of_lt_of_le h (Nat.pow_le_pow_right Ll Ll))
  simp[hi,this]
theorem Ix (x j:Nat):x ||| (2 ^ j-1)=2 ^ j*(x / 2 ^ j)+(2 ^ j-1):=by
 have hp:0<2 ^ j:=Nat.two_pow_pos j
 have h1:x=2 ^ j*(x / 2 ^ j) ||| x%2 ^ j:=by
  rw[← Nat.two_pow_add_eq_or_of_lt (Nat.mod_lt _ hp)]
  exact(Nat.div_add_mod _ _).symm
 have h2:x ||| (2 ^ j-1)=2 ^ j*(x / 2 ^ j) ||| (2 ^ j-1):=by
  have h3:=Nat.or_assoc (2 ^ j*(x / 2 ^ j)) (x%2 ^ j) (2 ^ j-1)
  rw[JK (Nat.mod_lt x hp),← h1]at h3
  exact h3
 rw[h2,← Nat.two_pow_add_eq_or_of_lt Ll]
theorem Ay {w:Nat}(x:BitVec w){j:Nat}(hj:j<w)(m:BitVec w)(hm:m.toNat=2 ^ j-1):(x &&& ~~~m).toNat=x.toNat / 2 ^ j*2 ^ j:=by
 apply Nat.eq_of_testBit_eq
 intro i
 rw[BitVec.testBit_toNat,BitVec.getLsbD_and,BitVec.getLsbD_not,Nat.testBit_mul_two_pow,Nat.testBit_div_two_pow,← BitVec.testBit_toNat,← BitVec.testBit_toNat,hm,Nat.testBit_two_pow_sub_one]
 by_cases h1:j≤i
 ·have e:i-j+j=i:=by omega
  by_cases h2:i<w
  ·simp[h1,h2,e,show ¬ i<j by omega]
  ·have:x.toNat.testBit i=false:=Nat.testBit_lt_two_pow (Nat.lt_of_lt_of_le x.isLt (Nat.pow_le_pow_right Ll Ll))
   simp[h2,this,e]
 ·simp[h1,show i<j by omega]
theorem jY {w:Nat}{a:Int}(h0:0≤a)(h1:a<2 ^ w):(BitVec.ofInt w a).toNat=a.toNat:=by
 rw[BitVec.toNat_ofInt]
 rw[Int.emod_eq_of_lt h0 (by exact_mod_cast h1)]
section
variable {F:bZ} {r:List bK} {Q:Env→ad→Prop} {env:Env} {h:ad} {d:Nat} {x y:bA}
theorem AQ {k:IntKind}{a b m:Int}(hx:ev env x = .int k a)(hy:ev env y = .int .u64 b)(hb:0≤b)(hm:(2:Int) ^ (min b.toNat k.bits)=m)(h0:0≤a)(hp:0<m)(k1:az F r Q (env.put d (.int k (a / m))) h):az F (⟨some d,.bin .shr x y,none⟩::r) Q env h:=by
 have e:a.fdiv m=a / m:=Int.fdiv_eq_ediv_of_nonneg a Ll
 simp[hx,hy,hm,e,show ¬ b<0 by omega,k1]
theorem AR {k:IntKind}{a b v:Int}(hx:ev env x = .int k a)(hy:ev env y = .int .i64 b)(hb:0≤b)(hv:k.wrap (a*2 ^ (min b.toNat k.bits))=v)(k1:az F r Q (env.put d (.int k v)) h):az F (⟨some d,.bin .shl x y,none⟩::r) Q env h:=by
 simp[hx,hy,hv,show ¬ b<0 by omega,k1]
theorem tj {k:IntKind}{a m:Int}{j:Nat}(hj:j<k.bits)(hm:m=2 ^ j-1)(h0:0≤a)(h1:a<2 ^ k.bits):((BitVec.ofInt k.bits a &&& BitVec.ofInt k.bits m).toNat:Int)=a%2 ^ j:=by
 have hp:0<2 ^ j:=Nat.two_pow_pos j
 have hm0:0≤m:=by
  rw[hm];have:(1:Int)≤2 ^ j:=by exact_mod_cast hp
  omega
 have hlt:(2:Nat) ^ j≤2 ^ k.bits:=Nat.pow_le_pow_right Ll Ll
 have hm1:m<2 ^ k.bits:=by
  have:((2:Int) ^ j)≤2 ^ k.bits:=by exact_mod_cast hlt
  omega
 have e:m.toNat=2 ^ j-1:=by
  have:((2 ^ j:Nat):Int)=(2:Int) ^ j:=by push_cast;rfl
  omega
 rw[BitVec.toNat_and,jY h0 h1,jY hm0 hm1,e,Nat.and_two_pow_sub_one_eq_mod]
 have e2:((a.toNat:Nat):Int)=a:=by omega
 rw[Int.natCast_emod,e2]
 congr 1
theorem Bc {k:IntKind}{a m:Int}{j:Nat}(hj:j<k.bits)(hm:m=2 ^ j-1)(h0:0≤a)(h1:a<2 ^ k.bits):((BitVec.ofInt k.bits a ||| BitVec.ofInt k.bits m).toNat:Int)=a / 2 ^ j*2 ^ j+m:=by
 have hp:0<2 ^ j:=Nat.two_pow_pos j
 have hm0:0≤m:=by
  rw[hm];have:(1:Int)≤2 ^ j:=by exact_mod_cast hp
  omega
 have hlt:(2:Nat) ^ j≤2 ^ k.bits:=Nat.pow_le_pow_right Ll Ll
 have hm1:m<2 ^ k.bits:=by
  have:((2:Int) ^ j)≤2 ^ k.bits:=by exact_mod_cast hlt
  omega
 have e:m.toNat=2 ^ j-1:=by
  have:((2 ^ j:Nat):Int)=(2:Int) ^ j:=by push_cast;rfl
  omega
 rw[BitVec.toNat_or,jY h0 h1,jY hm0 hm1,e,Ix,← e,Int.natCast_add,Int.natCast_mul,Int.natCast_ediv]
 have e2:((a.toNat:Nat):Int)=a:=by omega
 have e3:((m.toNat:Nat):Int)=m:=by omega
 have e4:((2 ^ j:Nat):Int)=(2:Int) ^ j:=by push_cast;rfl
 rw[e2,e3,e4,Int.mul_comm]
theorem xZ {k:IntKind}{a m:Int}{j:Nat}(hj:j<k.bits)(hm:m=2 ^ j-1)(h0:0≤a)(h1:a<2 ^ k.bits):((BitVec.ofInt k.bits a &&& ~~~BitVec.ofInt k.bits m).toNat:Int)=a / 2 ^ j*2 ^ j:=by
 have hp:0<2 ^ j:=Nat.two_pow_pos j
 have hm0:0≤m:=by
  rw[hm];have:(1:Int)≤2 ^ j:=by exact_mod_cast hp
  omega
 have hlt:(2:Nat) ^ j≤2 ^ k.bits:=Nat.pow_le_pow_right Ll Ll
 have hm1:m<2 ^ k.bits:=by
  have:((2:Int) ^ j)≤2 ^ k.bits:=by exact_mod_cast hlt
  omega
 have e:m.toNat=2 ^ j-1:=by
  have:((2 ^ j:Nat):Int)=(2:Int) ^ j:=by push_cast;rfl
  omega
 rw[Ay _ hj _ (by rw[jY hm0 hm1,e]),jY h0 h1,Int.natCast_mul,Int.natCast_ediv]
 have e2:((a.toNat:Nat):Int)=a:=by omega
 have e4:((2 ^ j:Nat):Int)=(2:Int) ^ j:=by push_cast;rfl
 rw[e2,e4]
theorem nv {a:Int}(h0:0≤a)(h1:a≤9223372036854775807):IntKind.i64.wrap a=a:=by simp[IntKind.wrap,IntKind.bits,IntKind.signed];omega
theorem Jc {a:Int}(h0:0≤a)(h1:a≤255):IntKind.u8.wrap a=a:=by simp[IntKind.wrap,IntKind.bits,IntKind.signed];omega
theorem j7 {k:IntKind}{op:BinOp}{a b v:Int}(hx:ev env x = .int k a)(hy:ev env y = .int k b)(hv:xd op (.int k a) (.int k b)=some (.int k v))(k1:az F r Q (env.put d (.int k v)) h):az F (⟨some d,.bin op x y,none⟩::r) Q env h:=by
 rw[bO,xl,hx,hy,hv]
 exact k1
theorem Ik {a:Int}(hx:ev env x = .int .u8 a)(hy:ev env y = .int .u8 63)(h0:0≤a)(h1:a≤255)(k1:az F r Q (env.put d (.int .u8 (a%64))) h):az F (⟨some d,.bin .and x y,none⟩::r) Q env h:=by
 have e:=tj (k := .u8) (a:=a) (m:=63) (j:=6) (by decide) rfl h0 (by show a<256;omega)
 refine j7 hx hy ?_ k1
 show some (AV.int .u8 (IntKind.u8.wrap _))=_
 rw[e]
 exact congrArg (fun v=>some (AV.int .u8 v)) (Jc (by show 0≤a%64;omega) (by show a%64≤_;omega))
theorem AS {c a:Int}{j:Nat}(hx:ev env x = .int .u8 c)(hy:ev env y = .int .u8 a)(hj:c=2 ^ j*(c / 2 ^ j))(h0:0≤a)(h1:a<2 ^ j)(hc:0≤c)(hca:c+a≤255)(k1:az F r Q (env.put d (.int .u8 (c+a))) h):az F (⟨some d,.bin .or x y,none⟩::r) Q env h:=by
 have hc1:c<2 ^ IntKind.u8.bits:=by show c<256;omega
 have ha1:a<2 ^ IntKind.u8.bits:=by show a<256;omega
 have e4:((2 ^ j:Nat):Int)=(2:Int) ^ j:=by push_cast;rfl
 have e:((BitVec.ofInt IntKind.u8.bits c ||| BitVec.ofInt IntKind.u8.bits a).toNat:Int)=c+a:=by
  rw[BitVec.toNat_or,jY hc hc1,jY h0 ha1]
  have g1:c.toNat=2 ^ j*(c.toNat / 2 ^ j):=by
   have e3:((c.toNat:Nat):Int)=c:=by omega
   have:((c.toNat:Nat):Int)=((2 ^ j*(c.toNat / 2 ^ j):Nat):Int):=by
    rw[Int.natCast_mul,Int.natCast_ediv,e4,e3];exact hj
   exact Int.ofNat.inj this
  rw[g1,← Nat.two_pow_add_eq_or_of_lt Ll,← g1]
  omega
 refine j7 hx hy ?_ k1
 show some (AV.int .u8 (IntKind.u8.wrap _))=_
 rw[e]
 exact congrArg (fun v=>some (AV.int .u8 v)) (Jc Ll hca)
theorem kV {k:IntKind}{a:Int}(hx:ev env x = .int k a)(h0:0≤a)(k1:az F r Q (env.put d (.int .u8 (a%256))) h):az F (⟨some d,.conv .u8 x,none⟩::r) Q env h:=by
 have:IntKind.u8.wrap a=a%256:=by simp[IntKind.wrap,IntKind.bits,IntKind.signed]
 simp[hx,this,k1]
theorem wo {k:IntKind}{a:Int}(hx:ev env x = .int k a)(h0 : -2147483648≤a)(h1:a≤2147483647)(k1:az F r Q (env.put d (.int .i32 a)) h):az F (⟨some d,.conv .i32 x,none⟩::r) Q env h:=by
 have:IntKind.i32.wrap a=a:=by simp[IntKind.wrap,IntKind.bits,IntKind.signed];omega
 simp[hx,this,k1]
theorem pU {k:IntKind}{a:Int}(hx:ev env x = .int k a)(h0:0≤a)(h1:a≤4294967295)(k1:az F r Q (env.put d (.int .u32 a)) h):az F (⟨some d,.conv .u32 x,none⟩::r) Q env h:=by
 have:IntKind.u32.wrap a=a:=by simp[IntKind.wrap,IntKind.bits,IntKind.signed];omega
 simp[hx,this,k1]
theorem Ge {a:Int}(hx:ev env x = .int .i64 a)(hy:ev env y = .int .i64 63)(h0:0≤a)(h1:a≤1114111)(k1:az F r Q (env.put d (.int .i64 (a%64))) h):az F (⟨some d,.bin .and x y,none⟩::r) Q env h:=by
 have e:=tj (k := .i64) (a:=a) (m:=63) (j:=6) (by decide) rfl h0 (by show a<18446744073709551616;omega)
 refine j7 hx hy ?_ k1
 show some (AV.int .i64 (IntKind.i64.wrap _))=_
 rw[e]
 exact congrArg (fun v=>some (AV.int .i64 v)) (nv (by show 0≤a%64;omega) (by show a%64≤_;omega))
theorem zd {a:Int}(hx:ev env x = .int .i64 a)(hy:ev env y = .int .i64 63)(h0:0≤a)(h1:a≤1114111)(k1:az F r Q (env.put d (.int .i64 (a / 64*64))) h):az F (⟨some d,.bin .andNot x y,none⟩::r) Q env h:=by
 have e:=xZ (k := .i64) (a:=a) (m:=63) (j:=6) (by decide) rfl h0 (by show a<18446744073709551616;omega)
 refine j7 hx hy ?_ k1
 show some (AV.int .i64 (IntKind.i64.wrap _))=_
 rw[e]
 exact congrArg (fun v=>some (AV.int .i64 v)) (nv (by show 0≤a / 64*64;omega) (by show a / 64*64≤_;omega))
theorem Ih {a:Int}(hx:ev env x = .int .i64 a)(hy:ev env y = .int .i64 63)(h0:0≤a)(h1:a≤1114111)(k1:az F r Q (env.put d (.int .i64 (a / 64*64+63))) h):az F (⟨some d,.bin .or x y,none⟩::r) Q env h:=by
 have e:=Bc (k := .i64) (a:=a) (m:=63) (j:=6) (by decide) rfl h0 (by show a<18446744073709551616;omega)
 refine j7 hx hy ?_ k1
 show some (AV.int .i64 (IntKind.i64.wrap _))=_
 rw[e]
 exact congrArg (fun v=>some (AV.int .i64 v)) (nv (by show 0≤a / 64*64+63;omega) (by show a / 64*64+63≤_;omega))
theorem AW {a:Int}(hx:ev env x = .int .i64 a)(hy:ev env y = .int .i64 4095)(h0:0≤a)(h1:a≤1114111)(k1:az F r Q (env.put d (.int .i64 (a%4096))) h):az F (⟨some d,.bin .and x y,none⟩::r) Q env h:=by
 have e:=tj (k := .i64) (a:=a) (m:=4095) (j:=12) (by decide) rfl h0 (by show a<18446744073709551616;omega)
 refine j7 hx hy ?_ k1
 show some (AV.int .i64 (IntKind.i64.wrap _))=_
 rw[e]
 exact congrArg (fun v=>some (AV.int .i64 v)) (nv (by show 0≤a%4096;omega) (by show a%4096≤_;omega))
theorem vm {a:Int}(hx:ev env x = .int .i64 a)(hy:ev env y = .int .i64 4095)(h0:0≤a)(h1:a≤1114111)(k1:az F r Q (env.put d (.int .i64 (a / 4096*4096))) h):az F (⟨some d,.bin .andNot x y,none⟩::r) Q env h:=by
 have e:=xZ (k := .i64) (a:=a) (m:=4095) (j:=12) (by decide) rfl h0 (by show a<18446744073709551616;omega)
 refine j7 hx hy ?_ k1
 show some (AV.int .i64 (IntKind.i64.wrap _))=_
 rw[e]
 exact congrArg (fun v=>some (AV.int .i64 v)) (nv (by show 0≤a / 4096*4096;omega) (by show a / 4096*4096≤_;omega))
theorem Dj {a:Int}(hx:ev env x = .int .i64 a)(hy:ev env y = .int .i64 4095)(h0:0≤a)(h1:a≤1114111)(k1:az F r Q (env.put d (.int .i64 (a / 4096*4096+4095))) h):az F (⟨some d,.bin .or x y,none⟩::r) Q env h:=by
 have e:=Bc (k := .i64) (a:=a) (m:=4095) (j:=12) (by decide) rfl h0 (by show a<18446744073709551616;omega)
 refine j7 hx hy ?_ k1
 show some (AV.int .i64 (IntKind.i64.wrap _))=_
 rw[e]
 exact congrArg (fun v=>some (AV.int .i64 v)) (nv (by show 0≤a / 4096*4096+4095;omega) (by show a / 4096*4096+4095≤_;omega))
theorem xF {a:Int}(hx:ev env x = .int .i64 a)(hy:ev env y = .int .i64 262143)(h0:0≤a)(h1:a≤1114111)(k1:az F r Q (env.put d (.int .i64 (a%262144))) h):az F (⟨some d,.bin .and x y,none⟩::r) Q env h:=by
 have e:=tj (k := .i64) (a:=a) (m:=262143) (j:=18) (by decide) rfl h0 (by show a<18446744073709551616;omega)
 refine j7 hx hy ?_ k1
 show some (AV.int .i64 (IntKind.i64.wrap _))=_
 rw[e]
 exact congrArg (fun v=>some (AV.int .i64 v)) (nv (by show 0≤a%262144;omega) (by show a%262144≤_;omega))
theorem sN {a:Int}(hx:ev env x = .int .i64 a)(hy:ev env y = .int .i64 262143)(h0:0≤a)(h1:a≤1114111)(k1:az F r Q (env.put d (.int .i64 (a / 262144*262144))) h):az F (⟨some d,.bin .andNot x y,none⟩::r) Q env h:=by
 have e:=xZ (k := .i64) (a:=a) (m:=262143) (j:=18) (by decide) rfl h0 (by show a<18446744073709551616;omega)
 refine j7 hx hy ?_ k1
 show some (AV.int .i64 (IntKind.i64.wrap _))=_
 rw[e]
 exact congrArg (fun v=>some (AV.int .i64 v)) (nv (by show 0≤a / 262144*262144;omega) (by show a / 262144*262144≤_;omega))
theorem y0 {a:Int}(hx:ev env x = .int .i64 a)(hy:ev env y = .int .i64 262143)(h0:0≤a)(h1:a≤1114111)(k1:az F r Q (env.put d (.int .i64 (a / 262144*262144+262143))) h):az F (⟨some d,.bin .or x y,none⟩::r) Q env h:=by
 have e:=Bc (k := .i64) (a:=a) (m:=262143) (j:=18) (by decide) rfl h0 (by show a<18446744073709551616;omega)
 refine j7 hx hy ?_ k1
 show some (AV.int .i64 (IntKind.i64.wrap _))=_
 rw[e]
 exact congrArg (fun v=>some (AV.int .i64 v)) (nv (by show 0≤a / 262144*262144+262143;omega) (by show a / 262144*262144+262143≤_;omega))
end
end
section
open Go
set_option maxHeartbeats 4000000
attribute [local irreducible] az bf bm de bz cw dH bJ wop cz bc
@[reducible] def kw (l:List Int)(fl:Bool):AV := .rd l.length (l.map (.int .u8)) fl
@[simp] theorem K0 (l:List Int):AV.frozenL (l.map (AV.int .u8))=true:=eI (fun r=>by simp[AV.frozen]) l
theorem FW {Φ:Lib}(L:fh Φ)(r:Int)(h0:0≤r)(h1:r≤1114111):eQ Φ 294 [.int .i32 r] (.bool (cv r)):=by
 refine ba (fun _=>false) rfl L.f294 ?_
 have hs:cv r=decide (r<55296∨57343<r):=by
  by_cases h:r<55296∨57343<r
  ·rw[decide_eq_true h];exact cx.2 ⟨h0,h1,h⟩
  ·rw[decide_eq_false h]
   cases e:cv r with
   | false=>rfl
   | true=>exact absurd (cx.1 e).2.2 h
 rw[hs]
 repeat' first|apply ac|(apply gw;first|(apply gq0;first|refine aq rfl ?_|refine bl rfl ?_)|(apply gq1;first|refine cf rfl ?_|refine cj rfl ?_)|(apply gq3;first|((first|refine aA rfl rfl rfl ?_ ?_|refine kD rfl rfl rfl ?_ ?_)<;>(intro hc;try omega)))|(apply gq7;first|refine bi rfl rfl ?_|refine bb rfl rfl ?_))|(apply gx;first|apply af|refine ae rfl ?_|apply ay|apply al|apply aM|refine ak rfl ?_|refine ai rfl ?_)|apply aa|apply cp|apply aI|apply gH
 all_goals first
  | exact aJ (v := .bool true) rfl (by rw[decide_eq_true Ll])
  | exact aJ (v := .bool false) rfl (by rw[decide_eq_false Ll])
  | trace_state
set_option maxRecDepth 100000 in
theorem zK {Φ:Lib}(L:fh Φ)(r:Int)(h0:128≤r)(h1:r≤1114111)(hs:cv r=true):eQ Φ 307 [.rd 0 [] true,.int .i32 r] (kw (bt r) false):=by
 have hsc:=(cx.1 hs).2.2
 refine ba (fun _=>false) rfl L.f307 ?_
 repeat' first|apply ac|(apply gw;first|(apply gq0;first|refine aq rfl ?_|refine bl rfl ?_|refine aG rfl ?_|refine au rv_ ?_)|refine cj rfl ?_|(apply gq3;first|((first|refine aA rfl rfl rfl ?_ ?_|refine kD rfl rfl rfl ?_ ?_|refine cN rfl rfl rfl ?_ ?_)<;>(intro hc;try omega))|refine AQ (m:=64) rfl rfl Ll rfl Ll Ll ?_|refine AQ (m:=4096) rfl rfl Ll rfl Ll Ll ?_|refine AQ (m:=262144) rfl rfl Ll rfl Ll Ll ?_|refine Ik rfl rfl Ll Ll ?_|refine AS (j:=6) rfl rfl (by decide) Ll (by show _<(64:Int);omega) Ll Ll ?_|refine AS (j:=5) rfl rfl (by decide) Ll (by show _<(32:Int);omega) Ll Ll ?_|refine AS (j:=4) rfl rfl (by decide) Ll (by show _<(16:Int);omega) Ll Ll ?_)|refine bi rfl rfl ?_|(refine aY rv_ ir_ rfl Lm (by first|omega|(simp;omega)) ?_;intro va hpa hra hka hria)|(apply KM;first|refine bj (cs:=[AV.int _ _,AV.int _ _]) rfl rfl ?_|refine bj (cs:=[AV.int _ _,AV.int _ _,AV.int _ _,AV.int _ _]) rfl rfl ?_|refine bj rfl rfl ?_)|(apply JX;first|refine kV rfl Ll ?_|refine pU rfl Ll Ll ?_))|(apply gx;first|apply af|refine ae rfl ?_|apply ay|apply al|apply aM|refine ak rfl ?_|refine ai rfl ?_)|apply aa|apply gH
 ·refine fq rfl (show aD hpa va 1 2 [AV.int .u8 (192+r / 64%256),AV.int .u8 (128+r%256%64)] from hra) (fun _=>?_)
  rw[sC Ll Ll,show 192+r / 64%256=192+r / 64 by omega,show 128+r%256%64=128+r%64 by omega]
  rfl
 ·refine fq rfl (show aD hpa va 1 3 [AV.int .u8 (224+r / 4096%256),AV.int .u8 (128+r / 64%256%64),AV.int .u8 (128+r%256%64)] from hra) (fun _=>?_)
  rw[ra Ll Ll,show 224+r / 4096%256=224+r / 4096 by omega,show 128+r / 64%256%64=128+r / 64%64 by omega,show 128+r%256%64=128+r%64 by omega]
  rfl
 ·refine fq rfl (show aD hpa va 1 3 [AV.int .u8 (224+r / 4096%256),AV.int .u8 (128+r / 64%256%64),AV.int .u8 (128+r%256%64)] from hra) (fun _=>?_)
  rw[ra Ll Ll,show 224+r / 4096%256=224+r / 4096 by omega,show 128+r / 64%256%64=128+r / 64%64 by omega,show 128+r%256%64=128+r%64 by omega]
  rfl
 ·refine fq rfl (show aD hpa va 1 4 [AV.int .u8 (240+r / 262144%256),AV.int .u8 (128+r / 4096%256%64),AV.int .u8 (128+r / 64%256%64),AV.int .u8 (128+r%256%64)] from hra) (fun _=>?_)
  rw[sB Ll,show 240+r / 262144%256=240+r / 262144 by omega,show 128+r / 4096%256%64=128+r / 4096%64 by omega,show 128+r / 64%256%64=128+r / 64%64 by omega,show 128+r%256%64=128+r%64 by omega]
  rfl
theorem HT {Φ:Lib}(L:fh Φ)(r:Int)(h0:0≤r)(h1:r≤1114111)(hs:cv r=true):eQ Φ 295 [.rd 0 [] true,.int .i32 r] (kw (bt r) false):=by
 refine ba (fun _=>false) rfl L.f295 ?_
 by_cases h:r<128
 ·repeat' first|apply ac|(apply gw;first|(apply gq0;first|refine aq rfl ?_|refine aG rfl ?_|refine au rv_ ?_)|(refine kD rfl rfl rfl ?_ ?_<;>(intro hc;try omega))|(refine aY (m:=1) rv_ ir_ rfl rfl Ll ?_;intro va hpa hra hka hria)|refine bj (cs:=[AV.int _ _]) rfl rfl ?_|(apply JX;first|refine kV rfl Ll ?_|refine pU rfl Ll Ll ?_))|(apply gx;first|apply af|refine ae rfl ?_|apply aM|refine ak rfl ?_)|apply aa|apply cp
  refine fq rfl (show aD hpa va 1 1 [AV.int .u8 (r%256)] from hra) (fun _=>?_)
  rw[sD h,show r%256=r by omega]
  rfl
 ·have k:=zK L r Ll h1 hs
  repeat' first|apply ac|(apply gw;first|(apply gq0;first|refine aq rfl ?_|refine aG rfl ?_)|(refine kD rfl rfl rfl ?_ ?_<;>(intro hc;try omega))|refine aH rfl nt_ ?_|refine pU rfl Ll Ll ?_)|(apply gx;first|apply af|refine ae rfl ?_|apply ay|apply aM|refine ai rfl ?_)|apply aa|refine aW (by assumption) fz_ fz_ ?_
  exact aJ (v:=kw (bt r) false) rfl rfl
def uI (r:Int):AV:=if cv r=true then kw (bt r) false else .rd 0 [] true
theorem rU {Φ:Lib}(L:fh Φ)(r:Int):eQ Φ 277 [.int .i64 r] (uI r):=by
 refine ba (fun _=>false) rfl L.f277 ?_
 have hno:¬ (0≤r∧r≤1114111)→cv r=false:=fun h=>by
  cases e:cv r with
  | false=>rfl
  | true=>have:=cx.1 e;omega
 by_cases h0:r<0
 ·have e:=hno Ll
  repeat' first|apply ac|(apply gw;first|(apply gq0;first|refine aq rfl ?_|refine bl rfl ?_|refine aG rfl ?_)|refine cf rfl ?_|(refine aA rfl rfl rfl ?_ ?_<;>(intro hc;try omega))|refine bi rfl rfl ?_)|(apply gx;first|apply af|refine ae rfl ?_|apply aM|refine ak rfl ?_)|apply aa|apply cp
  all_goals exact aJ (v := .rd 0 [] true) rfl (by unfold uI;rw[e];rfl)
 by_cases h1:1114111<r
 ·have e:=hno Ll
  repeat' first|apply ac|(apply gw;first|(apply gq0;first|refine aq rfl ?_|refine bl rfl ?_|refine aG rfl ?_)|(apply gq1;first|refine cf rfl ?_|refine cj rfl ?_)|(apply gq3;first|((first|refine aA rfl rfl rfl ?_ ?_|refine cN rfl rfl rfl ?_ ?_)<;>(intro hc;try omega)))|(apply gq7;first|refine bi rfl rfl ?_|refine bb rfl rfl ?_))|(apply gx;first|apply af|refine ae rfl ?_|apply aM|refine ak rfl ?_)|apply aa|apply cp
  all_goals exact aJ (v := .rd 0 [] true) rfl (by unfold uI;rw[e];rfl)
 have k1:=FW L r Ll Ll
 cases hs:cv r with
 | false =>
  rw[hs]at k1
  repeat' first|apply ac|(apply gw;first|(apply gq0;first|refine aq rfl ?_|refine bl rfl ?_|refine aG rfl ?_)|refine cj rfl ?_|(apply gq3;first|((first|refine aA rfl rfl rfl ?_ ?_|refine cN rfl rfl rfl ?_ ?_)<;>(intro hc;try omega)))|refine bb rfl rfl ?_|refine aH rfl nt_ ?_|refine dh (b:=false) rfl ?_|refine wo rfl Ll Ll ?_)|(apply gx;first|apply af|refine ae rfl ?_|apply aM|refine ak rfl ?_)|apply aa|apply cp|refine aW (by assumption) fz_ fz_ ?_
  all_goals exact aJ (v := .rd 0 [] true) rfl (by unfold uI;rw[hs];rfl)
 | true =>
  rw[hs]at k1
  have k2:=HT L r Ll Ll hs
  repeat' first|apply ac|(apply gw;first|(apply gq0;first|refine aq rfl ?_|refine bl rfl ?_|refine aG rfl ?_)|refine cj rfl ?_|(apply gq3;first|((first|refine aA rfl rfl rfl ?_ ?_|refine cN rfl rfl rfl ?_ ?_)<;>(intro hc;try omega)))|refine bb rfl rfl ?_|refine aH rfl nt_ ?_|refine dh (b:=true) rfl ?_|refine wo rfl Ll Ll ?_)|(apply gx;first|apply af|refine ae rfl ?_|apply ay|apply aM|refine ai rfl ?_)|apply aa|refine aW (by assumption) fz_ fz_ ?_
  all_goals exact aJ (v:=kw (bt r) false) rfl (by unfold uI;rw[hs];rfl)
end
section
open Go
set_option maxHeartbeats 4000000
attribute [local irreducible] az bf bm de bz cw dH bJ wop cz bc
def lvY (k:Nat):Int:=if k=1 then 64 else if k=2 then 4096 else 262144
theorem EU {n k:Nat}(h1:1≤k)(h2:k<n)(h3:n≤4):(jd n).drop (k-1)=lvY k::(jd n).drop k:=by
 have:(n=2∧k=1)∨(n=3∧k=1)∨(n=3∧k=2)∨(n=4∧k=1)∨(n=4∧k=2)∨(n=4∧k=3):=by omega
 rcases this with⟨rfl,rfl⟩|⟨rfl,rfl⟩|⟨rfl,rfl⟩|⟨rfl,rfl⟩|⟨rfl,rfl⟩|⟨rfl,rfl⟩<;>rfl
theorem EV (n:Nat):(jd n).drop (n-1)=[]:=by
 unfold jd
 split<;>simp
set_option maxRecDepth 100000 in
theorem EX {Φ:Lib}(L:fh Φ)(s:aj)(h0:0≤s.lo)(hle:s.lo≤s.hi)(h1:s.hi≤1114111)(hs:cv s.lo=true):eQ Φ 292 [.agg s.av] (.int .i64 (eX s)):=by
 have ke:=rU L s.lo
 have e:uI s.lo=kw (bt s.lo) false:=by unfold uI;rw[if_pos hs]
 rw[e]at ke
 have hl:=dq s.lo
 have hr:=dn s.lo
 refine ba (fun _=>false) rfl L.f292 ?_
 repeat' first|apply ac|(apply gw;first|refine aq rfl ?_|refine am rfl hg_ Lm b_ pv_ ?_|refine ar rfl (Nat.zero_add _) ?_|refine aw rfl ?_|refine aH rfl nt_ ?_|(refine gQ (v:=AV.agg _) rfl rfl ?_;intro id hid;try simp only[ad.set_none]at hid))|(apply gx;first|apply af|refine ae rfl ?_|apply al)|apply aa|refine aW (by assumption) fz_ fz_ ?_
 rw[hl]
 obtain⟨ib,rfl⟩:∃ x,x=id:=⟨_,rfl⟩
 refine gL (fun m env h'=>∃ k:Nat,m=bF s.lo-k∧1≤k∧k≤bF s.lo∧fL ((jd (bF s.lo)).drop (k-1)) s=eX s∧h'.get ib=some (.cells 0 s.av)∧env.has [(1,.ptr ib 0 0),(3,.int .i64 (bF s.lo)),(4,.int .i64 k)]) _ ⟨1,rfl,Nat.le_refl _,hr.1,rfl,ad.get_set_self _ _ _,hh_⟩ ?_
 clear hid
 rintro m env h' ⟨k,rfl,hk1,hk2,hpl,hb,he⟩
 obtain⟨env,rfl⟩:=he.ex
 clear he
 by_cases hk3:k<bF s.lo
 ·rw[EU hk1 hk3 hr.2]at hpl
  unfold fL at hpl
  have hkk:k=1∨k=2∨k=3:=by omega
  rcases hkk with rfl|rfl|rfl
  ·rw[show lvY 1=64 from rfl]at hpl
   repeat' first|apply ac|(apply gw;first|(apply gq0;first|refine aq rfl ?_|refine bl rfl ?_)|refine am rfl hg_ Lm b_ pv_ ?_|(apply gq3;first|refine aT rfl rfl rfl Ll Ll ?_|refine jj rfl rfl rfl Ll Ll ?_|((first|refine aA rfl rfl rfl ?_ ?_|refine dd rfl rfl rfl ?_ ?_|refine eK rfl rfl rfl ?_ ?_)<;>(intro hc;try omega))|refine AT rfl rfl rfl Ll Ll ?_|refine AR (v:=64) rfl rfl Ll rfl ?_|refine Ge rfl rfl Ll Ll ?_|refine zd rfl rfl Ll Ll ?_|refine Ih rfl rfl Ll Ll ?_)|refine ar rfl (Nat.zero_add _) ?_)|(apply gx;first|apply af|refine ae rfl ?_|apply ay|apply al|apply aM|apply aN|refine ak rfl ?_|refine ai rfl ?_)|apply aa|apply cp|apply aO|apply aI|apply gH|apply aP|apply iX
   all_goals first
    | (
     refine aJ (v := .int .i64 (s.lo / 64*64+63+1)) rfl ?_
     rw[← hpl,if_neg Ll,if_pos Ll]
     exact congrArg (AV.int .i64) Ll)
    | (
     refine aJ (v := .int .i64 (s.hi / 64*64)) rfl ?_
     rw[← hpl,if_neg Ll,if_neg Ll,if_pos Ll])
    | (
     refine fp (bF s.lo-2) Ll ⟨2,rfl,by omega,by omega,?_,hb,hh_⟩
     first
      | (rw[if_pos Ll]at hpl;exact hpl)
      | (rw[if_neg Ll,if_neg Ll,if_neg Ll]at hpl;exact hpl))
  ·rw[show lvY 2=4096 from rfl]at hpl
   repeat' first|apply ac|(apply gw;first|(apply gq0;first|refine aq rfl ?_|refine bl rfl ?_)|refine am rfl hg_ Lm b_ pv_ ?_|(apply gq3;first|refine aT rfl rfl rfl Ll Ll ?_|refine jj rfl rfl rfl Ll Ll ?_|((first|refine aA rfl rfl rfl ?_ ?_|refine dd rfl rfl rfl ?_ ?_|refine eK rfl rfl rfl ?_ ?_)<;>(intro hc;try omega))|refine AT rfl rfl rfl Ll Ll ?_|refine AR (v:=4096) rfl rfl Ll rfl ?_|refine AW rfl rfl Ll Ll ?_|refine vm rfl rfl Ll Ll ?_|refine Dj rfl rfl Ll Ll ?_)|refine ar rfl (Nat.zero_add _) ?_)|(apply gx;first|apply af|refine ae rfl ?_|apply ay|apply al|apply aM|apply aN|refine ak rfl ?_|refine ai rfl ?_)|apply aa|apply cp|apply aO|apply aI|apply gH|apply aP|apply iX
   all_goals first
    | (
     refine aJ (v := .int .i64 (s.lo / 4096*4096+4095+1)) rfl ?_
     rw[← hpl,if_neg Ll,if_pos Ll]
     exact congrArg (AV.int .i64) Ll)
    | (
     refine aJ (v := .int .i64 (s.hi / 4096*4096)) rfl ?_
     rw[← hpl,if_neg Ll,if_neg Ll,if_pos Ll])
    | (
     refine fp (bF s.lo-3) Ll ⟨3,rfl,by omega,by omega,?_,hb,hh_⟩
     first
      | (rw[if_pos Ll]at hpl;exact hpl)
      | (rw[if_neg Ll,if_neg Ll,if_neg Ll]at hpl;exact hpl))
  ·rw[show lvY 3=262144 from rfl]at hpl
   repeat' first|apply ac|(apply gw;first|(apply gq0;first|refine aq rfl ?_|refine bl rfl ?_)|refine am rfl hg_ Lm b_ pv_ ?_|(apply gq3;first|refine aT rfl rfl rfl Ll Ll ?_|refine jj rfl rfl rfl Ll Ll ?_|((first|refine aA rfl rfl rfl ?_ ?_|refine dd rfl rfl rfl ?_ ?_|refine eK rfl rfl rfl ?_ ?_)<;>(intro hc;try omega))|refine AT rfl rfl rfl Ll Ll ?_|refine AR (v:=262144) rfl rfl Ll rfl ?_|refine xF rfl rfl Ll Ll ?_|refine sN rfl rfl Ll Ll ?_|refine y0 rfl rfl Ll Ll ?_)|refine ar rfl (Nat.zero_add _) ?_)|(apply gx;first|apply af|refine ae rfl ?_|apply ay|apply al|apply aM|apply aN|refine ak rfl ?_|refine ai rfl ?_)|apply aa|apply cp|apply aO|apply aI|apply gH|apply aP|apply iX
   all_goals first
    | (
     refine aJ (v := .int .i64 (s.lo / 262144*262144+262143+1)) rfl ?_
     rw[← hpl,if_neg Ll,if_pos Ll]
     exact congrArg (AV.int .i64) Ll)
    | (
     refine aJ (v := .int .i64 (s.hi / 262144*262144)) rfl ?_
     rw[← hpl,if_neg Ll,if_neg Ll,if_pos Ll])
    | (
     refine fp (bF s.lo-4) Ll ⟨4,rfl,by omega,by omega,?_,hb,hh_⟩
     first
      | (rw[if_pos Ll]at hpl;exact hpl)
      | (rw[if_neg Ll,if_neg Ll,if_neg Ll]at hpl;exact hpl))
 ·have hk4:k=bF s.lo:=by omega
  subst hk4
  rw[EV]at hpl
  repeat' first|apply ac|(apply gw;first|refine aq rfl ?_|(refine aA rfl rfl rfl ?_ ?_<;>(intro hc;try omega)))|(apply gx;first|apply af|refine ae rfl ?_|apply aM|apply aN|refine ai rfl ?_)|apply aa|apply aO|apply aP|apply aX
  refine aJ (v := .int .i64 0) rfl ?_
  rw[← hpl]
  rfl
end
section
open Go
set_option maxHeartbeats 4000000
attribute [local irreducible] az bf bm de bz cw dH bJ wop cz bc
def IN:List Int:=[127,2047,65535,1114111]
def Hi:List Int:=[0,128,2048,65536,1114112]
theorem IM {j:Nat}(h:j<4):∃ p,jz[j]?=some p∧IN[j]?=some p.2∧Hi.getD j 0=p.1∧Hi.getD (j+1) 0=p.2+1∧0≤p.1∧p.2≤1114111∧0≤p.2:=by
 have:j=0∨j=1∨j=2∨j=3:=by omega
 rcases this with rfl|rfl|rfl|rfl
 ·exact⟨_,rfl,rfl,rfl,rfl,by decide,by decide,by decide⟩
 ·exact⟨_,rfl,rfl,rfl,rfl,by decide,by decide,by decide⟩
 ·exact⟨_,rfl,rfl,rfl,rfl,by decide,by decide,by decide⟩
 ·exact⟨_,rfl,rfl,rfl,rfl,by decide,by decide,by decide⟩
def sR (s:aj)(p:Int×Int):Option aj:=if max s.lo p.1≤min s.hi p.2 then some ⟨max s.lo p.1,min s.hi p.2⟩ else none
theorem Ds (s:aj):dm s=jz.filterMap (sR s):=rfl
theorem AZ (s:aj):(dm s).length≤4:=by
 unfold dm
 exact Nat.le_trans (List.length_filterMap_le _ _) (by simp[jz])
theorem wt (l:List aj):(l.flatMap dm).length≤4*l.length:=by
 induction l with
 | nil=>simp
 | cons s l ih =>
  have:=AZ s
  rw[List.flatMap_cons,List.length_append,List.length_cons]
  omega
theorem Fj {Φ:Lib}(L:fh Φ):eQ Φ 293 [] (.rd 4 (IN.map (.int .i64)) true):=by
 refine ba (fun _=>false) rfl L.f293 ?_
 repeat' first|apply ac|(apply gw;first|refine aG rfl ?_|refine bj (cs:=[AV.int _ _,AV.int _ _,AV.int _ _,AV.int _ _]) rfl rfl ?_)|(apply gx;first|apply af|refine ae rfl ?_|apply aM)|apply aa
 exact aJ (v := .rd 4 (IN.map (.int .i64)) true) rfl rfl
set_option maxRecDepth 100000 in
theorem FE {Φ:Lib}(L:fh Φ)(l:List aj)(fl:Bool)(hl:l.length≤1048576):eQ Φ 276 [.rd l.length (l.flatMap aj.av) fl] (.rd (l.flatMap dm).length ((l.flatMap dm).flatMap aj.av) false):=by
 have kl:=Fj L
 refine ba (fun _=>false) rfl L.f276 ?_
 repeat' first|apply ac|(apply gw;first|(apply gq0;first|refine aq rfl ?_|refine aG rfl ?_)|refine aw rfl ?_)|(apply gx;first|apply af|refine ae rfl ?_|apply al)|apply aa
 refine bD l.length (fun i env h'=>∃ v,Sep h' [j4 ad.empty,cA v 2 ((l.take i).flatMap dm).length (((l.take i).flatMap dm).flatMap aj.av)]∧env.has [(3,v),(10,.rd l.length (l.flatMap aj.av) fl),(11,.int .i64 l.length),(12,.int .i64 i)]) ⟨_,(Sep.old ad.empty).nil 2,hh_⟩ ?_
 rintro i env h' hi ⟨v,hS,he⟩
 have hrow:aD h' v 2 _ _:=hS.get (i:=1) rfl
 obtain⟨env,rfl⟩:=he.ex
 clear he
 by_cases hi2:i<l.length
 ·obtain⟨s,hs⟩:=aK hi2
  clear hrow
  repeat' first|apply ac|(apply gw;first|refine aq rfl ?_|refine jl rfl (by first|rfl|(simp[*];done)|fail) ?_|(refine aA rfl rfl rfl ?_ ?_<;>(intro hc;try omega))|refine cM rfl fl_ rfl hs Ll rfl ?_|refine aw rfl ?_|refine aH rfl nt_ ?_|(refine bV ?_;intro id hid;try simp only[ad.set_none]at hid)|refine cC (cs':=[AV.int _ _,AV.int _ _]) rfl rfl rfl rfl b_ rfl ?_)|(apply gx;first|apply af|refine ae rfl ?_|apply ay|apply al|refine ak rfl ?_)|apply aa|refine aW (by assumption) fz_ fz_ ?_
  obtain⟨i5,rfl⟩:∃ x,x=id:=⟨_,rfl⟩
  have hS1:=hS.new (o := .cells 0 s.av) hid
  clear hS hid
  refine bD 4 (fun j env h'=>∃ v,Sep h' [j4 ad.empty,cA v 2 ((l.take i).flatMap dm++(jz.take j).filterMap (sR s)).length (((l.take i).flatMap dm++(jz.take j).filterMap (sR s)).flatMap aj.av),bU i5 (.cells 0 s.av)]∧env.has [(3,v),(5,.ptr i5 0 0),(6,.int .i64 (Hi.getD j 0)),(10,.rd l.length (l.flatMap aj.av) fl),(11,.int .i64 l.length),(12,.int .i64 i),(16,.rd 4 (IN.map (.int .i64)) true),(17,.int .i64 4),(18,.int .i64 j)]) ⟨v,by rw[List.take_zero,List.filterMap_nil,List.append_nil];exact hS1,hh_⟩ ?_
  clear hS1
  rintro j env h' hj ⟨v,hS,he⟩
  have h5:h'.get i5=some (.cells 0 s.av):=hS.get (i:=2) rfl
  have hrow:aD h' v 2 _ _:=hS.get (i:=1) rfl
  obtain⟨env,rfl⟩:=he.ex
  clear he
  by_cases hj2:j<4
  ·obtain⟨p,hp,hx,hf1,hf2,hb1,hb2,hb3⟩:=IM hj2
   have hlen:((l.take i).flatMap dm++(jz.take j).filterMap (sR s)).length≤4194308:=by
    have q1:=wt (l.take i)
    have q2:(l.take i).length≤l.length:=by rw[List.length_take];omega
    have q3:=List.length_filterMap_le (sR s) (jz.take j)
    have q4:(jz.take j).length≤4:=by rw[List.length_take];simp[jz];omega
    rw[List.length_append]
    omega
   rw[hf1]
   repeat' first|apply ac|(apply gw;first|(apply gq0;first|refine aq rfl ?_|refine au rv_ ?_)|(apply gq2;first|refine aB rfl b_ pv_ ?_|refine am rfl hg_ Lm b_ pv_ ?_)|(apply gq3;first|refine aT rfl rfl rfl Ll Ll ?_|((first|refine aA rfl rfl rfl ?_ ?_|refine kD rfl rfl rfl ?_ ?_)<;>(intro hc;try omega)))|refine ar rfl (Nat.zero_add _) ?_|refine ah rfl rfl hx Ll rfl ?_|(refine bV ?_;intro id hid;try simp only[ad.set_none]at hid)|refine cC (cs':=[AV.int _ _,AV.int _ _]) rfl rfl rfl rfl b_ rfl ?_|(refine aY (m:=1) rv_ ir_ rfl rfl Ll ?_;intro va hpa hra hka hria)|refine cO (cs:=[AV.int _ _,AV.int _ _]) rfl ?_|refine bj (cs:=[AV.int _ _,AV.int _ _]) rfl rfl ?_|refine y9 rfl rfl rfl ?_|refine F9 rfl rfl rfl ?_)|(apply gx;first|apply af|refine ae rfl ?_|apply ay|apply al|refine ak rfl ?_|refine ai rfl ?_)|apply aa|apply aI
   ·have hq:sR s p=some ⟨max s.lo p.1,min s.hi p.2⟩:=if_pos hc
    have e1:(jz.take (j+1)).filterMap (sR s)=(jz.take j).filterMap (sR s)++[⟨max s.lo p.1,min s.hi p.2⟩]:=by
     rw[aV hp,List.filterMap_append]
     simp[List.filterMap_cons,hq]
    have hS1:=hS.new (o := .cells 0 [.int .i64 (max s.lo p.1),.int .i64 (min s.hi p.2)]) hid
    have hS2:=hS1.upd 1 (cA va 2 _ _) rfl hra hka hria
    have hS3:=hS2.drop 3 (h':=hpa) rfl (fun _ _=>rfl)
    refine aR hj2 ⟨va,?_,?_⟩
    ·rw[e1,← List.append_assoc,List.length_append (bs:=[_]),List.flatMap_append]
     exact hS3
    ·rw[hf2]
     exact hh_
   ·have hq:sR s p=none:=if_neg hc
    have e1:(jz.take (j+1)).filterMap (sR s)=(jz.take j).filterMap (sR s):=by
     rw[aV hp,List.filterMap_append]
     simp[List.filterMap_cons,hq]
    have hS1:=hS.new (o := .cells 0 [.int .i64 (max s.lo p.1),.int .i64 (min s.hi p.2)]) hid
    have hS3:=hS1.drop 3 (h':=h'.set id (.cells 0 [.int .i64 (max s.lo p.1),.int .i64 (min s.hi p.2)])) rfl (fun _ _=>rfl)
    refine aR hj2 ⟨v,?_,?_⟩
    ·rw[e1]
     exact hS3
    ·rw[hf2]
     exact hh_
  ·have hS3:=hS.drop 2 (h':=h') rfl (fun _ _=>rfl)
   have e4:jz.take j=jz:=List.take_of_length_le (by simp[jz];omega)
   have e5:(l.take (i+1)).flatMap dm=(l.take i).flatMap dm++(jz.take j).filterMap (sR s):=by
    rw[aV hs,List.flatMap_append,e4]
    simp[Ds]
   repeat' first|apply ac|(apply gw;first|refine aq rfl ?_|(apply gq3;first|refine aT rfl rfl rfl Ll Ll ?_|(refine aA rfl rfl rfl ?_ ?_<;>(intro hc;try omega))))|(apply gx;first|apply af|refine ae rfl ?_|apply aN|refine ai rfl ?_)|apply aa|apply aO|apply aI|apply aP|apply aX
   refine aR hi2 ⟨v,?_,hh_⟩
   rw[e5]
   exact hS3
 ·repeat' first|apply ac|(apply gw;first|refine au rv_ ?_|(refine aA rfl rfl rfl ?_ ?_<;>(intro hc;try omega)))|(apply gx;first|apply af|refine ae rfl ?_|apply aM|apply aN|refine ai rfl ?_)|apply aa|apply aO|apply aP|apply aX
  refine fq rfl hrow (fun _=>?_)
  rw[List.take_of_length_le Ll]
end
end Go.Proofs.YtlnobeojgifojaaGreatDoor
