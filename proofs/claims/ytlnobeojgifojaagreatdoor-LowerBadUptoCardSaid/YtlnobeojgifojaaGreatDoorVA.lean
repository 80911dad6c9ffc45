/- Steps of bits. utf.Encode: a scalar as bytes. seqs.place: where a span is cut. seqs.bySize: spans by how many bytes their scalars have. -/
import Derived.Test.YtlnobeojgifojaaGreatDoorE1
import Derived.Test.YtlnobeojgifojaaGreatDoorCF
import Derived.Test.YtlnobeojgifojaaGreatDoorWC
import Derived.Test.YtlnobeojgifojaaGreatDoorD7
import Derived.Test.YtlnobeojgifojaaGreatDoorO2
set_option linter.unusedVariables false
set_option linter.unusedSimpArgs false
namespace Go.Proofs.YtlnobeojgifojaaGreatDoor
section
open Go
theorem Jx {r j:Nat}(h:r<2 ^ j):r ||| (2 ^ j-1)=2 ^ j-1:=by
 apply Nat.eq_of_testBit_eq
 intro i
 rw[Nat.testBit_or,Nat.testBit_two_pow_sub_one]
 by_cases hi:i<j
 ·simp[hi]
 ·have:r.testBit i=false:=Nat.testBit_lt_two_pow (Nat.lt_of_lt_of_le h (Nat.pow_le_pow_right (by omega) (by omega)))
  simp[hi,this]
theorem Ii (x j:Nat):x ||| (2 ^ j-1)=2 ^ j*(x / 2 ^ j)+(2 ^ j-1):=by
 have hp:0<2 ^ j:=Nat.two_pow_pos j
 have h1:x=2 ^ j*(x / 2 ^ j) ||| x%2 ^ j:=by
  rw[← Nat.two_pow_add_eq_or_of_lt (Nat.mod_lt _ hp)]
  exact(Nat.div_add_mod _ _).symm
 have h2:x ||| (2 ^ j-1)=2 ^ j*(x / 2 ^ j) ||| (2 ^ j-1):=by
  have h3:=Nat.or_assoc (2 ^ j*(x / 2 ^ j)) (x%2 ^ j) (2 ^ j-1)
  rw[Jx (Nat.mod_lt x hp),← h1]at h3
  exact h3
 rw[h2,← Nat.two_pow_add_eq_or_of_lt (by omega)]
theorem An {w:Nat}(x:BitVec w){j:Nat}(hj:j<w)(m:BitVec w)(hm:m.toNat=2 ^ j-1):(x &&& ~~~m).toNat=x.toNat / 2 ^ j*2 ^ j:=by
 apply Nat.eq_of_testBit_eq
 intro i
 rw[BitVec.testBit_toNat,BitVec.getLsbD_and,BitVec.getLsbD_not,Nat.testBit_mul_two_pow,Nat.testBit_div_two_pow,← BitVec.testBit_toNat,← BitVec.testBit_toNat,hm,Nat.testBit_two_pow_sub_one]
 by_cases h1:j≤i
 ·have e:i-j+j=i:=by omega
  by_cases h2:i<w
  ·simp[h1,h2,e,show ¬ i<j by omega]
  ·have:x.toNat.testBit i=false:=Nat.testBit_lt_two_pow (Nat.lt_of_lt_of_le x.isLt (Nat.pow_le_pow_right (by omega) (by omega)))
   simp[h2,this,e]
 ·simp[h1,show i<j by omega]
theorem jV {w:Nat}{a:Int}(h0:0≤a)(h1:a<2 ^ w):(BitVec.ofInt w a).toNat=a.toNat:=by
 rw[BitVec.toNat_ofInt]
 rw[Int.emod_eq_of_lt h0 (by exact_mod_cast h1)]
section
variable {F:bT} {r:List bF} {Q:Env→ac→Prop} {env:Env} {h:ac} {d:Nat} {x y:bt}
theorem AE {k:IntKind}{a b m:Int}(hx:ev env x = .int k a)(hy:ev env y = .int .u64 b)(hb:0≤b)(hm:(2:Int) ^ (min b.toNat k.bits)=m)(h0:0≤a)(hp:0<m)(k1:aw F r Q (env.put d (.int k (a / m))) h):aw F (⟨some d,.bin .shr x y,none⟩::r) Q env h:=by
 have e:a.fdiv m=a / m:=Int.fdiv_eq_ediv_of_nonneg a (by omega)
 simp[hx,hy,hm,e,show ¬ b<0 by omega,k1]
theorem AF {k:IntKind}{a b v:Int}(hx:ev env x = .int k a)(hy:ev env y = .int .i64 b)(hb:0≤b)(hv:k.wrap (a*2 ^ (min b.toNat k.bits))=v)(k1:aw F r Q (env.put d (.int k v)) h):aw F (⟨some d,.bin .shl x y,none⟩::r) Q env h:=by
 simp[hx,hy,hv,show ¬ b<0 by omega,k1]
theorem ta {k:IntKind}{a m:Int}{j:Nat}(hj:j<k.bits)(hm:m=2 ^ j-1)(h0:0≤a)(h1:a<2 ^ k.bits):((BitVec.ofInt k.bits a &&& BitVec.ofInt k.bits m).toNat:Int)=a%2 ^ j:=by
 have hp:0<2 ^ j:=Nat.two_pow_pos j
 have hm0:0≤m:=by
  rw[hm];have:(1:Int)≤2 ^ j:=by exact_mod_cast hp
  omega
 have hlt:(2:Nat) ^ j≤2 ^ k.bits:=Nat.pow_le_pow_right (by omega) (by omega)
 have hm1:m<2 ^ k.bits:=by
  have:((2:Int) ^ j)≤2 ^ k.bits:=by exact_mod_cast hlt
  omega
 have e:m.toNat=2 ^ j-1:=by
  have:((2 ^ j:Nat):Int)=(2:Int) ^ j:=by push_cast;rfl
  omega
 rw[BitVec.toNat_and,jV h0 h1,jV hm0 hm1,e,Nat.and_two_pow_sub_one_eq_mod]
 have e2:((a.toNat:Nat):Int)=a:=by omega
 rw[Int.natCast_emod,e2]
 congr 1
theorem AY {k:IntKind}{a m:Int}{j:Nat}(hj:j<k.bits)(hm:m=2 ^ j-1)(h0:0≤a)(h1:a<2 ^ k.bits):((BitVec.ofInt k.bits a ||| BitVec.ofInt k.bits m).toNat:Int)=a / 2 ^ j*2 ^ j+m:=by
 have hp:0<2 ^ j:=Nat.two_pow_pos j
 have hm0:0≤m:=by
  rw[hm];have:(1:Int)≤2 ^ j:=by exact_mod_cast hp
  omega
 have hlt:(2:Nat) ^ j≤2 ^ k.bits:=Nat.pow_le_pow_right (by omega) (by omega)
 have hm1:m<2 ^ k.bits:=by
  have:((2:Int) ^ j)≤2 ^ k.bits:=by exact_mod_cast hlt
  omega
 have e:m.toNat=2 ^ j-1:=by
  have:((2 ^ j:Nat):Int)=(2:Int) ^ j:=by push_cast;rfl
  omega
 rw[BitVec.toNat_or,jV h0 h1,jV hm0 hm1,e,Ii,← e,Int.natCast_add,Int.natCast_mul,Int.natCast_ediv]
 have e2:((a.toNat:Nat):Int)=a:=by omega
 have e3:((m.toNat:Nat):Int)=m:=by omega
 have e4:((2 ^ j:Nat):Int)=(2:Int) ^ j:=by push_cast;rfl
 rw[e2,e3,e4,Int.mul_comm]
theorem xN {k:IntKind}{a m:Int}{j:Nat}(hj:j<k.bits)(hm:m=2 ^ j-1)(h0:0≤a)(h1:a<2 ^ k.bits):((BitVec.ofInt k.bits a &&& ~~~BitVec.ofInt k.bits m).toNat:Int)=a / 2 ^ j*2 ^ j:=by
 have hp:0<2 ^ j:=Nat.two_pow_pos j
 have hm0:0≤m:=by
  rw[hm];have:(1:Int)≤2 ^ j:=by exact_mod_cast hp
  omega
 have hlt:(2:Nat) ^ j≤2 ^ k.bits:=Nat.pow_le_pow_right (by omega) (by omega)
 have hm1:m<2 ^ k.bits:=by
  have:((2:Int) ^ j)≤2 ^ k.bits:=by exact_mod_cast hlt
  omega
 have e:m.toNat=2 ^ j-1:=by
  have:((2 ^ j:Nat):Int)=(2:Int) ^ j:=by push_cast;rfl
  omega
 rw[An _ hj _ (by rw[jV hm0 hm1,e]),jV h0 h1,Int.natCast_mul,Int.natCast_ediv]
 have e2:((a.toNat:Nat):Int)=a:=by omega
 have e4:((2 ^ j:Nat):Int)=(2:Int) ^ j:=by push_cast;rfl
 rw[e2,e4]
theorem ni {a:Int}(h0:0≤a)(h1:a≤9223372036854775807):IntKind.i64.wrap a=a:=by simp[IntKind.wrap,IntKind.bits,IntKind.signed];omega
theorem IY {a:Int}(h0:0≤a)(h1:a≤255):IntKind.u8.wrap a=a:=by simp[IntKind.wrap,IntKind.bits,IntKind.signed];omega
theorem j0 {k:IntKind}{op:BinOp}{a b v:Int}(hx:ev env x = .int k a)(hy:ev env y = .int k b)(hv:wZ op (.int k a) (.int k b)=some (.int k v))(k1:aw F r Q (env.put d (.int k v)) h):aw F (⟨some d,.bin op x y,none⟩::r) Q env h:=by
 rw[bM,xb,hx,hy,hv]
 exact k1
theorem H4 {a:Int}(hx:ev env x = .int .u8 a)(hy:ev env y = .int .u8 63)(h0:0≤a)(h1:a≤255)(k1:aw F r Q (env.put d (.int .u8 (a%64))) h):aw F (⟨some d,.bin .and x y,none⟩::r) Q env h:=by
 have e:=ta (k := .u8) (a:=a) (m:=63) (j:=6) (by decide) rfl h0 (by show a<256;omega)
 refine j0 hx hy ?_ k1
 show some (AV.int .u8 (IntKind.u8.wrap _))=_
 rw[e]
 exact congrArg (fun v=>some (AV.int .u8 v)) (IY (by show 0≤a%64;omega) (by show a%64≤_;omega))
theorem AG {c a:Int}{j:Nat}(hx:ev env x = .int .u8 c)(hy:ev env y = .int .u8 a)(hj:c=2 ^ j*(c / 2 ^ j))(h0:0≤a)(h1:a<2 ^ j)(hc:0≤c)(hca:c+a≤255)(k1:aw F r Q (env.put d (.int .u8 (c+a))) h):aw F (⟨some d,.bin .or x y,none⟩::r) Q env h:=by
 have hc1:c<2 ^ IntKind.u8.bits:=by show c<256;omega
 have ha1:a<2 ^ IntKind.u8.bits:=by show a<256;omega
 have e4:((2 ^ j:Nat):Int)=(2:Int) ^ j:=by push_cast;rfl
 have e:((BitVec.ofInt IntKind.u8.bits c ||| BitVec.ofInt IntKind.u8.bits a).toNat:Int)=c+a:=by
  rw[BitVec.toNat_or,jV hc hc1,jV h0 ha1]
  have g1:c.toNat=2 ^ j*(c.toNat / 2 ^ j):=by
   have e3:((c.toNat:Nat):Int)=c:=by omega
   have:((c.toNat:Nat):Int)=((2 ^ j*(c.toNat / 2 ^ j):Nat):Int):=by
    rw[Int.natCast_mul,Int.natCast_ediv,e4,e3];exact hj
   exact Int.ofNat.inj this
  rw[g1,← Nat.two_pow_add_eq_or_of_lt (by omega),← g1]
  omega
 refine j0 hx hy ?_ k1
 show some (AV.int .u8 (IntKind.u8.wrap _))=_
 rw[e]
 exact congrArg (fun v=>some (AV.int .u8 v)) (IY (by omega) hca)
theorem qv {k:IntKind}{a:Int}(hx:ev env x = .int k a)(h0:0≤a)(k1:aw F r Q (env.put d (.int .u8 (a%256))) h):aw F (⟨some d,.conv .u8 x,none⟩::r) Q env h:=by
 have:IntKind.u8.wrap a=a%256:=by simp[IntKind.wrap,IntKind.bits,IntKind.signed]
 simp[hx,this,k1]
theorem we {k:IntKind}{a:Int}(hx:ev env x = .int k a)(h0 : -2147483648≤a)(h1:a≤2147483647)(k1:aw F r Q (env.put d (.int .i32 a)) h):aw F (⟨some d,.conv .i32 x,none⟩::r) Q env h:=by
 have:IntKind.i32.wrap a=a:=by simp[IntKind.wrap,IntKind.bits,IntKind.signed];omega
 simp[hx,this,k1]
theorem pL {k:IntKind}{a:Int}(hx:ev env x = .int k a)(h0:0≤a)(h1:a≤4294967295)(k1:aw F r Q (env.put d (.int .u32 a)) h):aw F (⟨some d,.conv .u32 x,none⟩::r) Q env h:=by
 have:IntKind.u32.wrap a=a:=by simp[IntKind.wrap,IntKind.bits,IntKind.signed];omega
 simp[hx,this,k1]
theorem F4 {a:Int}(hx:ev env x = .int .i64 a)(hy:ev env y = .int .i64 63)(h0:0≤a)(h1:a≤1114111)(k1:aw F r Q (env.put d (.int .i64 (a%64))) h):aw F (⟨some d,.bin .and x y,none⟩::r) Q env h:=by
 have e:=ta (k := .i64) (a:=a) (m:=63) (j:=6) (by decide) rfl h0 (by show a<18446744073709551616;omega)
 refine j0 hx hy ?_ k1
 show some (AV.int .i64 (IntKind.i64.wrap _))=_
 rw[e]
 exact congrArg (fun v=>some (AV.int .i64 v)) (ni (by show 0≤a%64;omega) (by show a%64≤_;omega))
theorem yU {a:Int}(hx:ev env x = .int .i64 a)(hy:ev env y = .int .i64 63)(h0:0≤a)(h1:a≤1114111)(k1:aw F r Q (env.put d (.int .i64 (a / 64*64))) h):aw F (⟨some d,.bin .andNot x y,none⟩::r) Q env h:=by
 have e:=xN (k := .i64) (a:=a) (m:=63) (j:=6) (by decide) rfl h0 (by show a<18446744073709551616;omega)
 refine j0 hx hy ?_ k1
 show some (AV.int .i64 (IntKind.i64.wrap _))=_
 rw[e]
 exact congrArg (fun v=>some (AV.int .i64 v)) (ni (by show 0≤a / 64*64;omega) (by show a / 64*64≤_;omega))
theorem H1 {a:Int}(hx:ev env x = .int .i64 a)(hy:ev env y = .int .i64 63)(h0:0≤a)(h1:a≤1114111)(k1:aw F r Q (env.put d (.int .i64 (a / 64*64+63))) h):aw F (⟨some d,.bin .or x y,none⟩::r) Q env h:=by
 have e:=AY (k := .i64) (a:=a) (m:=63) (j:=6) (by decide) rfl h0 (by show a<18446744073709551616;omega)
 refine j0 hx hy ?_ k1
 show some (AV.int .i64 (IntKind.i64.wrap _))=_
 rw[e]
 exact congrArg (fun v=>some (AV.int .i64 v)) (ni (by show 0≤a / 64*64+63;omega) (by show a / 64*64+63≤_;omega))
theorem AI {a:Int}(hx:ev env x = .int .i64 a)(hy:ev env y = .int .i64 4095)(h0:0≤a)(h1:a≤1114111)(k1:aw F r Q (env.put d (.int .i64 (a%4096))) h):aw F (⟨some d,.bin .and x y,none⟩::r) Q env h:=by
 have e:=ta (k := .i64) (a:=a) (m:=4095) (j:=12) (by decide) rfl h0 (by show a<18446744073709551616;omega)
 refine j0 hx hy ?_ k1
 show some (AV.int .i64 (IntKind.i64.wrap _))=_
 rw[e]
 exact congrArg (fun v=>some (AV.int .i64 v)) (ni (by show 0≤a%4096;omega) (by show a%4096≤_;omega))
theorem u7 {a:Int}(hx:ev env x = .int .i64 a)(hy:ev env y = .int .i64 4095)(h0:0≤a)(h1:a≤1114111)(k1:aw F r Q (env.put d (.int .i64 (a / 4096*4096))) h):aw F (⟨some d,.bin .andNot x y,none⟩::r) Q env h:=by
 have e:=xN (k := .i64) (a:=a) (m:=4095) (j:=12) (by decide) rfl h0 (by show a<18446744073709551616;omega)
 refine j0 hx hy ?_ k1
 show some (AV.int .i64 (IntKind.i64.wrap _))=_
 rw[e]
 exact congrArg (fun v=>some (AV.int .i64 v)) (ni (by show 0≤a / 4096*4096;omega) (by show a / 4096*4096≤_;omega))
theorem C7 {a:Int}(hx:ev env x = .int .i64 a)(hy:ev env y = .int .i64 4095)(h0:0≤a)(h1:a≤1114111)(k1:aw F r Q (env.put d (.int .i64 (a / 4096*4096+4095))) h):aw F (⟨some d,.bin .or x y,none⟩::r) Q env h:=by
 have e:=AY (k := .i64) (a:=a) (m:=4095) (j:=12) (by decide) rfl h0 (by show a<18446744073709551616;omega)
 refine j0 hx hy ?_ k1
 show some (AV.int .i64 (IntKind.i64.wrap _))=_
 rw[e]
 exact congrArg (fun v=>some (AV.int .i64 v)) (ni (by show 0≤a / 4096*4096+4095;omega) (by show a / 4096*4096+4095≤_;omega))
theorem xr {a:Int}(hx:ev env x = .int .i64 a)(hy:ev env y = .int .i64 262143)(h0:0≤a)(h1:a≤1114111)(k1:aw F r Q (env.put d (.int .i64 (a%262144))) h):aw F (⟨some d,.bin .and x y,none⟩::r) Q env h:=by
 have e:=ta (k := .i64) (a:=a) (m:=262143) (j:=18) (by decide) rfl h0 (by show a<18446744073709551616;omega)
 refine j0 hx hy ?_ k1
 show some (AV.int .i64 (IntKind.i64.wrap _))=_
 rw[e]
 exact congrArg (fun v=>some (AV.int .i64 v)) (ni (by show 0≤a%262144;omega) (by show a%262144≤_;omega))
theorem sH {a:Int}(hx:ev env x = .int .i64 a)(hy:ev env y = .int .i64 262143)(h0:0≤a)(h1:a≤1114111)(k1:aw F r Q (env.put d (.int .i64 (a / 262144*262144))) h):aw F (⟨some d,.bin .andNot x y,none⟩::r) Q env h:=by
 have e:=xN (k := .i64) (a:=a) (m:=262143) (j:=18) (by decide) rfl h0 (by show a<18446744073709551616;omega)
 refine j0 hx hy ?_ k1
 show some (AV.int .i64 (IntKind.i64.wrap _))=_
 rw[e]
 exact congrArg (fun v=>some (AV.int .i64 v)) (ni (by show 0≤a / 262144*262144;omega) (by show a / 262144*262144≤_;omega))
theorem yO {a:Int}(hx:ev env x = .int .i64 a)(hy:ev env y = .int .i64 262143)(h0:0≤a)(h1:a≤1114111)(k1:aw F r Q (env.put d (.int .i64 (a / 262144*262144+262143))) h):aw F (⟨some d,.bin .or x y,none⟩::r) Q env h:=by
 have e:=AY (k := .i64) (a:=a) (m:=262143) (j:=18) (by decide) rfl h0 (by show a<18446744073709551616;omega)
 refine j0 hx hy ?_ k1
 show some (AV.int .i64 (IntKind.i64.wrap _))=_
 rw[e]
 exact congrArg (fun v=>some (AV.int .i64 v)) (ni (by show 0≤a / 262144*262144+262143;omega) (by show a / 262144*262144+262143≤_;omega))
end
end
section
open Go
set_option maxHeartbeats 4000000
attribute [local irreducible] aw bg bm dg bz cw dO bH wop cz a8
@[reducible] def jk (l:List Int)(fl:Bool):AV := .rd l.length (l.map (.int .u8)) fl
@[simp] theorem KN (l:List Int):AV.frozenL (l.map (AV.int .u8))=true:=eF (fun r=>by simp[AV.frozen]) l
theorem FM {Φ:Lib}(L:fd Φ)(r:Int)(h0:0≤r)(h1:r≤1114111):fg Φ 294 [.int .i32 r] (.bool (cv r)):=by
 refine aY (fun _=>false) rfl L.f294 ?_
 have hs:cv r=decide (r<55296∨57343<r):=by
  by_cases h:r<55296∨57343<r
  ·rw[decide_eq_true h];exact cx.2 ⟨h0,h1,h⟩
  ·rw[decide_eq_false h]
   cases e:cv r with
   | false=>rfl
   | true=>exact absurd (cx.1 e).2.2 h
 rw[hs]
 repeat' first|apply ad|(apply gw;first|(apply gq0;first|refine am rfl ?_|refine bj rfl ?_)|(apply gq1;first|refine cr rfl ?_|refine bP rfl ?_)|(apply gq3;first|(refine aA rfl rfl rfl ?_ ?_<;>(intro hc;try (exfalso;omega)))|(refine ix rfl rfl rfl ?_ ?_<;>(intro hc;try (exfalso;omega))))|(apply gq7;first|refine aZ rfl rfl ?_|refine bc rfl rfl ?_))|(apply gx;first|apply af|refine ae rfl ?_|apply ay|apply al|apply aJ|refine ak rfl ?_|refine ah rfl ?_)|apply aa|apply cu|apply aF|apply fT
 all_goals first
  | exact aH (v := .bool true) rfl (by rw[decide_eq_true (by omega)])
  | exact aH (v := .bool false) rfl (by rw[decide_eq_false (by omega)])
  | trace_state
set_option maxRecDepth 100000 in
theorem zx {Φ:Lib}(L:fd Φ)(r:Int)(h0:128≤r)(h1:r≤1114111)(hs:cv r=true):fg Φ 307 [.rd 0 [] true,.int .i32 r] (jk (br r) false):=by
 have hsc:=(cx.1 hs).2.2
 refine aY (fun _=>false) rfl L.f307 ?_
 repeat' first|apply ad|(apply gw;first|(apply gq0;first|refine am rfl ?_|refine bj rfl ?_|refine aG rfl ?_|refine aq rv_ ?_)|refine bP rfl ?_|(apply gq3;first|(refine aA rfl rfl rfl ?_ ?_<;>(intro hc;try (exfalso;omega)))|(refine ix rfl rfl rfl ?_ ?_<;>(intro hc;try (exfalso;omega)))|(refine cY rfl rfl rfl ?_ ?_<;>(intro hc;try (exfalso;omega)))|refine AE (m:=64) rfl rfl (by omega) rfl (by omega) (by omega) ?_|refine AE (m:=4096) rfl rfl (by omega) rfl (by omega) (by omega) ?_|refine AE (m:=262144) rfl rfl (by omega) rfl (by omega) (by omega) ?_|refine H4 rfl rfl (by omega) (by omega) ?_|refine AG (j:=6) rfl rfl (by decide) (by omega) (by show _<(64:Int);omega) (by omega) (by omega) ?_|refine AG (j:=5) rfl rfl (by decide) (by omega) (by show _<(32:Int);omega) (by omega) (by omega) ?_|refine AG (j:=4) rfl rfl (by decide) (by omega) (by show _<(16:Int);omega) (by omega) (by omega) ?_)|refine aZ rfl rfl ?_|(refine aX rv_ ir_ rfl (by simp) (by first|omega|(simp;omega)) ?_;intro va hpa hra hka hria)|(apply Kz;first|refine bk (cs:=[AV.int _ _,AV.int _ _]) rfl rfl ?_|refine bk (cs:=[AV.int _ _,AV.int _ _,AV.int _ _,AV.int _ _]) rfl rfl ?_|refine bk rfl rfl ?_)|(apply JK;first|refine qv rfl (by omega) ?_|refine pL rfl (by omega) (by omega) ?_))|(apply gx;first|apply af|refine ae rfl ?_|apply ay|apply al|apply aJ|refine ak rfl ?_|refine ah rfl ?_)|apply aa|apply fT
 ·refine fj rfl (show aC hpa va 1 2 [AV.int .u8 (192+r / 64%256),AV.int .u8 (128+r%256%64)] from hra) (fun _=>?_)
  rw[sr (by omega) (by omega),show 192+r / 64%256=192+r / 64 by omega,show 128+r%256%64=128+r%64 by omega]
  rfl
 ·refine fj rfl (show aC hpa va 1 3 [AV.int .u8 (224+r / 4096%256),AV.int .u8 (128+r / 64%256%64),AV.int .u8 (128+r%256%64)] from hra) (fun _=>?_)
  rw[qV (by omega) (by omega),show 224+r / 4096%256=224+r / 4096 by omega,show 128+r / 64%256%64=128+r / 64%64 by omega,show 128+r%256%64=128+r%64 by omega]
  rfl
 ·refine fj rfl (show aC hpa va 1 3 [AV.int .u8 (224+r / 4096%256),AV.int .u8 (128+r / 64%256%64),AV.int .u8 (128+r%256%64)] from hra) (fun _=>?_)
  rw[qV (by omega) (by omega),show 224+r / 4096%256=224+r / 4096 by omega,show 128+r / 64%256%64=128+r / 64%64 by omega,show 128+r%256%64=128+r%64 by omega]
  rfl
 ·refine fj rfl (show aC hpa va 1 4 [AV.int .u8 (240+r / 262144%256),AV.int .u8 (128+r / 4096%256%64),AV.int .u8 (128+r / 64%256%64),AV.int .u8 (128+r%256%64)] from hra) (fun _=>?_)
  rw[sq (by omega),show 240+r / 262144%256=240+r / 262144 by omega,show 128+r / 4096%256%64=128+r / 4096%64 by omega,show 128+r / 64%256%64=128+r / 64%64 by omega,show 128+r%256%64=128+r%64 by omega]
  rfl
theorem HG {Φ:Lib}(L:fd Φ)(r:Int)(h0:0≤r)(h1:r≤1114111)(hs:cv r=true):fg Φ 295 [.rd 0 [] true,.int .i32 r] (jk (br r) false):=by
 refine aY (fun _=>false) rfl L.f295 ?_
 by_cases h:r<128
 ·repeat' first|apply ad|(apply gw;first|(apply gq0;first|refine am rfl ?_|refine aG rfl ?_|refine aq rv_ ?_)|(refine ix rfl rfl rfl ?_ ?_<;>(intro hc;try (exfalso;omega)))|(refine aX (m:=1) rv_ ir_ rfl rfl (by omega) ?_;intro va hpa hra hka hria)|refine bk (cs:=[AV.int _ _]) rfl rfl ?_|(apply JK;first|refine qv rfl (by omega) ?_|refine pL rfl (by omega) (by omega) ?_))|(apply gx;first|apply af|refine ae rfl ?_|apply aJ|refine ak rfl ?_)|apply aa|apply cu
  refine fj rfl (show aC hpa va 1 1 [AV.int .u8 (r%256)] from hra) (fun _=>?_)
  rw[ss h,show r%256=r by omega]
  rfl
 ·have k:=zx L r (by omega) h1 hs
  repeat' first|apply ad|(apply gw;first|(apply gq0;first|refine am rfl ?_|refine aG rfl ?_)|(refine ix rfl rfl rfl ?_ ?_<;>(intro hc;try (exfalso;omega)))|refine aI rfl nt_ ?_|refine pL rfl (by omega) (by omega) ?_)|(apply gx;first|apply af|refine ae rfl ?_|apply ay|apply aJ|refine ah rfl ?_)|apply aa|refine aU (by assumption) fz_ fz_ ?_
  exact aH (v:=jk (br r) false) rfl rfl
def uB (r:Int):AV:=if cv r=true then jk (br r) false else .rd 0 [] true
theorem rN {Φ:Lib}(L:fd Φ)(r:Int):fg Φ 277 [.int .i64 r] (uB r):=by
 refine aY (fun _=>false) rfl L.f277 ?_
 have hno:¬ (0≤r∧r≤1114111)→cv r=false:=fun h=>by
  cases e:cv r with
  | false=>rfl
  | true=>have:=cx.1 e;omega
 by_cases h0:r<0
 ·have e:=hno (by omega)
  repeat' first|apply ad|(apply gw;first|(apply gq0;first|refine am rfl ?_|refine bj rfl ?_|refine aG rfl ?_)|refine cr rfl ?_|(refine aA rfl rfl rfl ?_ ?_<;>(intro hc;try (exfalso;omega)))|refine aZ rfl rfl ?_)|(apply gx;first|apply af|refine ae rfl ?_|apply aJ|refine ak rfl ?_)|apply aa|apply cu
  all_goals exact aH (v := .rd 0 [] true) rfl (by unfold uB;rw[e];rfl)
 by_cases h1:1114111<r
 ·have e:=hno (by omega)
  repeat' first|apply ad|(apply gw;first|(apply gq0;first|refine am rfl ?_|refine bj rfl ?_|refine aG rfl ?_)|(apply gq1;first|refine cr rfl ?_|refine bP rfl ?_)|(apply gq3;first|(refine aA rfl rfl rfl ?_ ?_<;>(intro hc;try (exfalso;omega)))|(refine cY rfl rfl rfl ?_ ?_<;>(intro hc;try (exfalso;omega))))|(apply gq7;first|refine aZ rfl rfl ?_|refine bc rfl rfl ?_))|(apply gx;first|apply af|refine ae rfl ?_|apply aJ|refine ak rfl ?_)|apply aa|apply cu
  all_goals exact aH (v := .rd 0 [] true) rfl (by unfold uB;rw[e];rfl)
 have k1:=FM L r (by omega) (by omega)
 cases hs:cv r with
 | false =>
  rw[hs]at k1
  repeat' first|apply ad|(apply gw;first|(apply gq0;first|refine am rfl ?_|refine bj rfl ?_|refine aG rfl ?_)|refine bP rfl ?_|(apply gq3;first|(refine aA rfl rfl rfl ?_ ?_<;>(intro hc;try (exfalso;omega)))|(refine cY rfl rfl rfl ?_ ?_<;>(intro hc;try (exfalso;omega))))|refine bc rfl rfl ?_|refine aI rfl nt_ ?_|refine dp (b:=false) rfl ?_|refine we rfl (by omega) (by omega) ?_)|(apply gx;first|apply af|refine ae rfl ?_|apply aJ|refine ak rfl ?_)|apply aa|apply cu|refine aU (by assumption) fz_ fz_ ?_
  all_goals exact aH (v := .rd 0 [] true) rfl (by unfold uB;rw[hs];rfl)
 | true =>
  rw[hs]at k1
  have k2:=HG L r (by omega) (by omega) hs
  repeat' first|apply ad|(apply gw;first|(apply gq0;first|refine am rfl ?_|refine bj rfl ?_|refine aG rfl ?_)|refine bP rfl ?_|(apply gq3;first|(refine aA rfl rfl rfl ?_ ?_<;>(intro hc;try (exfalso;omega)))|(refine cY rfl rfl rfl ?_ ?_<;>(intro hc;try (exfalso;omega))))|refine bc rfl rfl ?_|refine aI rfl nt_ ?_|refine dp (b:=true) rfl ?_|refine we rfl (by omega) (by omega) ?_)|(apply gx;first|apply af|refine ae rfl ?_|apply ay|apply aJ|refine ah rfl ?_)|apply aa|refine aU (by assumption) fz_ fz_ ?_
  all_goals exact aH (v:=jk (br r) false) rfl (by unfold uB;rw[hs];rfl)
end
section
open Go
set_option maxHeartbeats 4000000
attribute [local irreducible] aw bg bm dg bz cw dO bH wop cz a8
def lvY (k:Nat):Int:=if k=1 then 64 else if k=2 then 4096 else 262144
theorem EM {n k:Nat}(h1:1≤k)(h2:k<n)(h3:n≤4):(jb n).drop (k-1)=lvY k::(jb n).drop k:=by
 have:(n=2∧k=1)∨(n=3∧k=1)∨(n=3∧k=2)∨(n=4∧k=1)∨(n=4∧k=2)∨(n=4∧k=3):=by omega
 rcases this with⟨rfl,rfl⟩|⟨rfl,rfl⟩|⟨rfl,rfl⟩|⟨rfl,rfl⟩|⟨rfl,rfl⟩|⟨rfl,rfl⟩<;>rfl
theorem EN (n:Nat):(jb n).drop (n-1)=[]:=by
 unfold jb
 split<;>simp
set_option maxRecDepth 100000 in
theorem EP {Φ:Lib}(L:fd Φ)(s:ai)(h0:0≤s.lo)(hle:s.lo≤s.hi)(h1:s.hi≤1114111)(hs:cv s.lo=true):fg Φ 292 [.agg s.av] (.int .i64 (eU s)):=by
 have ke:=rN L s.lo
 have e:uB s.lo=jk (br s.lo) false:=by unfold uB;rw[if_pos hs]
 rw[e]at ke
 have hl:=dv s.lo
 have hr:=cO s.lo
 refine aY (fun _=>false) rfl L.f292 ?_
 repeat' first|apply ad|(apply gw;first|refine am rfl ?_|refine ar rfl hg_ (by simp) b_ pv_ ?_|refine au rfl (Nat.zero_add _) ?_|refine az rfl ?_|refine aI rfl nt_ ?_|(refine iV (v:=AV.agg _) rfl rfl ?_;intro id hid;try simp only[ac.set_none]at hid))|(apply gx;first|apply af|refine ae rfl ?_|apply al)|apply aa|refine aU (by assumption) fz_ fz_ ?_
 rw[hl]
 obtain⟨ib,rfl⟩:∃ x,x=id:=⟨_,rfl⟩
 refine iq (fun m env h'=>∃ k:Nat,m=bB s.lo-k∧1≤k∧k≤bB s.lo∧fK ((jb (bB s.lo)).drop (k-1)) s=eU s∧h'.get ib=some (.cells 0 s.av)∧env.has [(1,.ptr ib 0 0),(3,.int .i64 (bB s.lo)),(4,.int .i64 k)]) _ ⟨1,rfl,Nat.le_refl _,hr.1,rfl,ac.get_set_self _ _ _,hh_⟩ ?_
 clear hid
 rintro m env h' ⟨k,rfl,hk1,hk2,hpl,hb,he⟩
 obtain⟨env,rfl⟩:=he.ex
 clear he
 by_cases hk3:k<bB s.lo
 ·rw[EM hk1 hk3 hr.2]at hpl
  unfold fK at hpl
  have hkk:k=1∨k=2∨k=3:=by omega
  rcases hkk with rfl|rfl|rfl
  ·rw[show lvY 1=64 from rfl]at hpl
   repeat' first|apply ad|(apply gw;first|(apply gq0;first|refine am rfl ?_|refine bj rfl ?_)|refine ar rfl hg_ (by simp) b_ pv_ ?_|(apply gq3;first|refine aQ rfl rfl rfl (by omega) (by omega) ?_|refine eS rfl rfl rfl (by omega) (by omega) ?_|(refine aA rfl rfl rfl ?_ ?_<;>(intro hc;try (exfalso;omega)))|(refine cq rfl rfl rfl ?_ ?_<;>(intro hc;try (exfalso;omega)))|(refine fw rfl rfl rfl ?_ ?_<;>(intro hc;try (exfalso;omega)))|refine nn rfl rfl rfl (by omega) (by omega) ?_|refine AF (v:=64) rfl rfl (by omega) rfl ?_|refine F4 rfl rfl (by omega) (by omega) ?_|refine yU rfl rfl (by omega) (by omega) ?_|refine H1 rfl rfl (by omega) (by omega) ?_)|refine au rfl (Nat.zero_add _) ?_)|(apply gx;first|apply af|refine ae rfl ?_|apply ay|apply al|apply aJ|apply aL|refine ak rfl ?_|refine ah rfl ?_)|apply aa|apply cu|apply aM|apply aF|apply fT|apply aN|apply ld
   all_goals first
    | (
     refine aH (v := .int .i64 (s.lo / 64*64+63+1)) rfl ?_
     rw[← hpl,if_neg (by omega),if_pos (by omega)]
     exact congrArg (AV.int .i64) (by omega))
    | (
     refine aH (v := .int .i64 (s.hi / 64*64)) rfl ?_
     rw[← hpl,if_neg (by omega),if_neg (by omega),if_pos (by omega)])
    | (
     refine fA (bB s.lo-2) (by omega) ⟨2,rfl,by omega,by omega,?_,hb,hh_⟩
     first
      | (rw[if_pos (by omega)]at hpl;exact hpl)
      | (rw[if_neg (by omega),if_neg (by omega),if_neg (by omega)]at hpl;exact hpl))
  ·rw[show lvY 2=4096 from rfl]at hpl
   repeat' first|apply ad|(apply gw;first|(apply gq0;first|refine am rfl ?_|refine bj rfl ?_)|refine ar rfl hg_ (by simp) b_ pv_ ?_|(apply gq3;first|refine aQ rfl rfl rfl (by omega) (by omega) ?_|refine eS rfl rfl rfl (by omega) (by omega) ?_|(refine aA rfl rfl rfl ?_ ?_<;>(intro hc;try (exfalso;omega)))|(refine cq rfl rfl rfl ?_ ?_<;>(intro hc;try (exfalso;omega)))|(refine fw rfl rfl rfl ?_ ?_<;>(intro hc;try (exfalso;omega)))|refine nn rfl rfl rfl (by omega) (by omega) ?_|refine AF (v:=4096) rfl rfl (by omega) rfl ?_|refine AI rfl rfl (by omega) (by omega) ?_|refine u7 rfl rfl (by omega) (by omega) ?_|refine C7 rfl rfl (by omega) (by omega) ?_)|refine au rfl (Nat.zero_add _) ?_)|(apply gx;first|apply af|refine ae rfl ?_|apply ay|apply al|apply aJ|apply aL|refine ak rfl ?_|refine ah rfl ?_)|apply aa|apply cu|apply aM|apply aF|apply fT|apply aN|apply ld
   all_goals first
    | (
     refine aH (v := .int .i64 (s.lo / 4096*4096+4095+1)) rfl ?_
     rw[← hpl,if_neg (by omega),if_pos (by omega)]
     exact congrArg (AV.int .i64) (by omega))
    | (
     refine aH (v := .int .i64 (s.hi / 4096*4096)) rfl ?_
     rw[← hpl,if_neg (by omega),if_neg (by omega),if_pos (by omega)])
    | (
     refine fA (bB s.lo-3) (by omega) ⟨3,rfl,by omega,by omega,?_,hb,hh_⟩
     first
      | (rw[if_pos (by omega)]at hpl;exact hpl)
      | (rw[if_neg (by omega),if_neg (by omega),if_neg (by omega)]at hpl;exact hpl))
  ·rw[show lvY 3=262144 from rfl]at hpl
   repeat' first|apply ad|(apply gw;first|(apply gq0;first|refine am rfl ?_|refine bj rfl ?_)|refine ar rfl hg_ (by simp) b_ pv_ ?_|(apply gq3;first|refine aQ rfl rfl rfl (by omega) (by omega) ?_|refine eS rfl rfl rfl (by omega) (by omega) ?_|(refine aA rfl rfl rfl ?_ ?_<;>(intro hc;try (exfalso;omega)))|(refine cq rfl rfl rfl ?_ ?_<;>(intro hc;try (exfalso;omega)))|(refine fw rfl rfl rfl ?_ ?_<;>(intro hc;try (exfalso;omega)))|refine nn rfl rfl rfl (by omega) (by omega) ?_|refine AF (v:=262144) rfl rfl (by omega) rfl ?_|refine xr rfl rfl (by omega) (by omega) ?_|refine sH rfl rfl (by omega) (by omega) ?_|refine yO rfl rfl (by omega) (by omega) ?_)|refine au rfl (Nat.zero_add _) ?_)|(apply gx;first|apply af|refine ae rfl ?_|apply ay|apply al|apply aJ|apply aL|refine ak rfl ?_|refine ah rfl ?_)|apply aa|apply cu|apply aM|apply aF|apply fT|apply aN|apply ld
   all_goals first
    | (
     refine aH (v := .int .i64 (s.lo / 262144*262144+262143+1)) rfl ?_
     rw[← hpl,if_neg (by omega),if_pos (by omega)]
     exact congrArg (AV.int .i64) (by omega))
    | (
     refine aH (v := .int .i64 (s.hi / 262144*262144)) rfl ?_
     rw[← hpl,if_neg (by omega),if_neg (by omega),if_pos (by omega)])
    | (
     refine fA (bB s.lo-4) (by omega) ⟨4,rfl,by omega,by omega,?_,hb,hh_⟩
     first
      | (rw[if_pos (by omega)]at hpl;exact hpl)
      | (rw[if_neg (by omega),if_neg (by omega),if_neg (by omega)]at hpl;exact hpl))
 ·have hk4:k=bB s.lo:=by omega
  subst hk4
  rw[EN]at hpl
  repeat' first|apply ad|(apply gw;first|refine am rfl ?_|(refine aA rfl rfl rfl ?_ ?_<;>(intro hc;try (exfalso;omega))))|(apply gx;first|apply af|refine ae rfl ?_|apply aJ|apply aL|refine ah rfl ?_)|apply aa|apply aM|apply aN|apply aR
  refine aH (v := .int .i64 0) rfl ?_
  rw[← hpl]
  rfl
end
section
open Go
set_option maxHeartbeats 4000000
attribute [local irreducible] aw bg bm dg bz cw dO bH wop cz a8
def Iz:List Int:=[127,2047,65535,1114111]
def G7:List Int:=[0,128,2048,65536,1114112]
theorem Iy {j:Nat}(h:j<4):∃ p,jw[j]?=some p∧Iz[j]?=some p.2∧G7.getD j 0=p.1∧G7.getD (j+1) 0=p.2+1∧0≤p.1∧p.2≤1114111∧0≤p.2:=by
 have:j=0∨j=1∨j=2∨j=3:=by omega
 rcases this with rfl|rfl|rfl|rfl
 ·exact⟨_,rfl,rfl,rfl,rfl,by decide,by decide,by decide⟩
 ·exact⟨_,rfl,rfl,rfl,rfl,by decide,by decide,by decide⟩
 ·exact⟨_,rfl,rfl,rfl,rfl,by decide,by decide,by decide⟩
 ·exact⟨_,rfl,rfl,rfl,rfl,by decide,by decide,by decide⟩
def sL (s:ai)(p:Int×Int):Option ai:=if max s.lo p.1≤min s.hi p.2 then some ⟨max s.lo p.1,min s.hi p.2⟩ else none
theorem Dh (s:ai):de s=jw.filterMap (sL s):=rfl
theorem AM (s:ai):(de s).length≤4:=by
 unfold de
 exact Nat.le_trans (List.length_filterMap_le _ _) (by simp[jw])
theorem wj (l:List ai):(l.flatMap de).length≤4*l.length:=by
 induction l with
 | nil=>simp
 | cons s l ih =>
  have:=AM s
  rw[List.flatMap_cons,List.length_append,List.length_cons]
  omega
theorem Fb {Φ:Lib}(L:fd Φ):fg Φ 293 [] (.rd 4 (Iz.map (.int .i64)) true):=by
 refine aY (fun _=>false) rfl L.f293 ?_
 repeat' first|apply ad|(apply gw;first|refine aG rfl ?_|refine bk (cs:=[AV.int _ _,AV.int _ _,AV.int _ _,AV.int _ _]) rfl rfl ?_)|(apply gx;first|apply af|refine ae rfl ?_|apply aJ)|apply aa
 exact aH (v := .rd 4 (Iz.map (.int .i64)) true) rfl rfl
set_option maxRecDepth 100000 in
theorem Fv {Φ:Lib}(L:fd Φ)(l:List ai)(fl:Bool)(hl:l.length≤1048576):fg Φ 276 [.rd l.length (l.flatMap ai.av) fl] (.rd (l.flatMap de).length ((l.flatMap de).flatMap ai.av) false):=by
 have kl:=Fb L
 refine aY (fun _=>false) rfl L.f276 ?_
 repeat' first|apply ad|(apply gw;first|(apply gq0;first|refine am rfl ?_|refine aG rfl ?_)|refine az rfl ?_)|(apply gx;first|apply af|refine ae rfl ?_|apply al)|apply aa
 refine bG l.length (fun i env h'=>∃ v,Sep h' [kg ac.empty,cC v 2 ((l.take i).flatMap de).length (((l.take i).flatMap de).flatMap ai.av)]∧env.has [(3,v),(10,.rd l.length (l.flatMap ai.av) fl),(11,.int .i64 l.length),(12,.int .i64 i)]) ⟨_,(Sep.old ac.empty).nil 2,hh_⟩ ?_
 rintro i env h' hi ⟨v,hS,he⟩
 have hrow:aC h' v 2 _ _:=hS.get (i:=1) rfl
 obtain⟨env,rfl⟩:=he.ex
 clear he
 by_cases hi2:i<l.length
 ·obtain⟨s,hs⟩:=aK hi2
  clear hrow
  repeat' first|apply ad|(apply gw;first|refine am rfl ?_|refine jM rfl (by first|rfl|(simp[*];done)|fail) ?_|(refine aA rfl rfl rfl ?_ ?_<;>(intro hc;try (exfalso;omega)))|refine dF rfl fl_ rfl hs (by omega) rfl ?_|refine az rfl ?_|refine aI rfl nt_ ?_|(refine bZ ?_;intro id hid;try simp only[ac.set_none]at hid)|refine cD (cs':=[AV.int _ _,AV.int _ _]) rfl rfl rfl rfl b_ rfl ?_)|(apply gx;first|apply af|refine ae rfl ?_|apply ay|apply al|refine ak rfl ?_)|apply aa|refine aU (by assumption) fz_ fz_ ?_
  obtain⟨i5,rfl⟩:∃ x,x=id:=⟨_,rfl⟩
  have hS1:=hS.new (o := .cells 0 s.av) hid
  clear hS hid
  refine bG 4 (fun j env h'=>∃ v,Sep h' [kg ac.empty,cC v 2 ((l.take i).flatMap de++(jw.take j).filterMap (sL s)).length (((l.take i).flatMap de++(jw.take j).filterMap (sL s)).flatMap ai.av),ce i5 (.cells 0 s.av)]∧env.has [(3,v),(5,.ptr i5 0 0),(6,.int .i64 (G7.getD j 0)),(10,.rd l.length (l.flatMap ai.av) fl),(11,.int .i64 l.length),(12,.int .i64 i),(16,.rd 4 (Iz.map (.int .i64)) true),(17,.int .i64 4),(18,.int .i64 j)]) ⟨v,by rw[List.take_zero,List.filterMap_nil,List.append_nil];exact hS1,hh_⟩ ?_
  clear hS1
  rintro j env h' hj ⟨v,hS,he⟩
  have h5:h'.get i5=some (.cells 0 s.av):=hS.get (i:=2) rfl
  have hrow:aC h' v 2 _ _:=hS.get (i:=1) rfl
  obtain⟨env,rfl⟩:=he.ex
  clear he
  by_cases hj2:j<4
  ·obtain⟨p,hp,hx,hf1,hf2,hb1,hb2,hb3⟩:=Iy hj2
   have hlen:((l.take i).flatMap de++(jw.take j).filterMap (sL s)).length≤4194308:=by
    have q1:=wj (l.take i)
    have q2:(l.take i).length≤l.length:=by rw[List.length_take];omega
    have q3:=List.length_filterMap_le (sL s) (jw.take j)
    have q4:(jw.take j).length≤4:=by rw[List.length_take];simp[jw];omega
    rw[List.length_append]
    omega
   rw[hf1]
   repeat' first|apply ad|(apply gw;first|(apply gq0;first|refine am rfl ?_|refine aq rv_ ?_)|(apply gq2;first|refine aB rfl b_ pv_ ?_|refine ar rfl hg_ (by simp) b_ pv_ ?_)|(apply gq3;first|refine aQ rfl rfl rfl (by omega) (by omega) ?_|(refine aA rfl rfl rfl ?_ ?_<;>(intro hc;try (exfalso;omega)))|(refine ix rfl rfl rfl ?_ ?_<;>(intro hc;try (exfalso;omega))))|refine au rfl (Nat.zero_add _) ?_|refine aj rfl rfl hx (by omega) rfl ?_|(refine bZ ?_;intro id hid;try simp only[ac.set_none]at hid)|refine cD (cs':=[AV.int _ _,AV.int _ _]) rfl rfl rfl rfl b_ rfl ?_|(refine aX (m:=1) rv_ ir_ rfl rfl (by omega) ?_;intro va hpa hra hka hria)|refine cJ (cs:=[AV.int _ _,AV.int _ _]) rfl ?_|refine bk (cs:=[AV.int _ _,AV.int _ _]) rfl rfl ?_|refine yP rfl rfl rfl ?_|refine FZ rfl rfl rfl ?_)|(apply gx;first|apply af|refine ae rfl ?_|apply ay|apply al|refine ak rfl ?_|refine ah rfl ?_)|apply aa|apply aF
   ·have hq:sL s p=some ⟨max s.lo p.1,min s.hi p.2⟩:=if_pos hc
    have e1:(jw.take (j+1)).filterMap (sL s)=(jw.take j).filterMap (sL s)++[⟨max s.lo p.1,min s.hi p.2⟩]:=by
     rw[aS hp,List.filterMap_append]
     simp[List.filterMap_cons,hq]
    have hS1:=hS.new (o := .cells 0 [.int .i64 (max s.lo p.1),.int .i64 (min s.hi p.2)]) hid
    have hS2:=hS1.upd 1 (cC va 2 _ _) rfl hra hka hria
    have hS3:=hS2.drop 3 (h':=hpa) rfl (fun _ _=>rfl)
    refine aP hj2 ⟨va,?_,?_⟩
    ·rw[e1,← List.append_assoc,List.length_append (bs:=[_]),List.flatMap_append]
     exact hS3
    ·rw[hf2]
     exact hh_
   ·have hq:sL s p=none:=if_neg hc
    have e1:(jw.take (j+1)).filterMap (sL s)=(jw.take j).filterMap (sL s):=by
     rw[aS hp,List.filterMap_append]
     simp[List.filterMap_cons,hq]
    have hS1:=hS.new (o := .cells 0 [.int .i64 (max s.lo p.1),.int .i64 (min s.hi p.2)]) hid
    have hS3:=hS1.drop 3 (h':=h'.set id (.cells 0 [.int .i64 (max s.lo p.1),.int .i64 (min s.hi p.2)])) rfl (fun _ _=>rfl)
    refine aP hj2 ⟨v,?_,?_⟩
    ·rw[e1]
     exact hS3
    ·rw[hf2]
     exact hh_
  ·have hS3:=hS.drop 2 (h':=h') rfl (fun _ _=>rfl)
   have e4:jw.take j=jw:=List.take_of_length_le (by simp[jw];omega)
   have e5:(l.take (i+1)).flatMap de=(l.take i).flatMap de++(jw.take j).filterMap (sL s):=by
    rw[aS hs,List.flatMap_append,e4]
    simp[Dh]
   repeat' first|apply ad|(apply gw;first|refine am rfl ?_|(apply gq3;first|refine aQ rfl rfl rfl (by omega) (by omega) ?_|(refine aA rfl rfl rfl ?_ ?_<;>(intro hc;try (exfalso;omega)))))|(apply gx;first|apply af|refine ae rfl ?_|apply aL|refine ah rfl ?_)|apply aa|apply aM|apply aF|apply aN|apply aR
   refine aP hi2 ⟨v,?_,hh_⟩
   rw[e5]
   exact hS3
 ·repeat' first|apply ad|(apply gw;first|refine aq rv_ ?_|(refine aA rfl rfl rfl ?_ ?_<;>(intro hc;try (exfalso;omega))))|(apply gx;first|apply af|refine ae rfl ?_|apply aJ|apply aL|refine ah rfl ?_)|apply aa|apply aM|apply aN|apply aR
  refine fj rfl hrow (fun _=>?_)
  rw[List.take_of_length_le (by omega)]
end
end Go.Proofs.YtlnobeojgifojaaGreatDoor
