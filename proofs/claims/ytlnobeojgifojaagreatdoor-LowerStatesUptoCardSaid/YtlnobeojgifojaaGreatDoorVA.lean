/- Steps of bits. utf.Encode: a scalar as bytes. seqs.place: where a span is cut. seqs.bySize: spans by how many bytes their scalars have. -/
import Derived.Test.YtlnobeojgifojaaGreatDoorE1
import Derived.Test.YtlnobeojgifojaaGreatDoorCF
import Derived.Test.YtlnobeojgifojaaGreatDoorWC
import Derived.Test.YtlnobeojgifojaaGreatDoorD7
import Derived.Test.YtlnobeojgifojaaGreatDoorO2
set_option linter.unusedVariables false
set_option linter.unusedSimpArgs false
namespace Go.Proofs.YtlnobeojgifojaaGreatDoor
section
open Go
theorem Jc {r j:Nat}(h:r<2 ^ j):r ||| (2 ^ j-1)=2 ^ j-1:=by
 apply Nat.eq_of_testBit_eq
 intro i
 rw[Nat.testBit_or,Nat.testBit_two_pow_sub_one]
 by_cases hi:i<j
 ·simp[hi]
 ·have:r.testBit i=false:=Nat.testBit_lt_two_pow (Nat.lt_of_lt_of_le h (Nat.pow_le_pow_right (by omega) (by omega)))
  simp[hi,this]
theorem HW (x j:Nat):x ||| (2 ^ j-1)=2 ^ j*(x / 2 ^ j)+(2 ^ j-1):=by
 have hp:0<2 ^ j:=Nat.two_pow_pos j
 have h1:x=2 ^ j*(x / 2 ^ j) ||| x%2 ^ j:=by
  rw[← Nat.two_pow_add_eq_or_of_lt (Nat.mod_lt _ hp)]
  exact(Nat.div_add_mod _ _).symm
 have h2:x ||| (2 ^ j-1)=2 ^ j*(x / 2 ^ j) ||| (2 ^ j-1):=by
  have h3:=Nat.or_assoc (2 ^ j*(x / 2 ^ j)) (x%2 ^ j) (2 ^ j-1)
  rw[Jc (Nat.mod_lt x hp),← h1]at h3
  exact h3
 rw[h2,← Nat.two_pow_add_eq_or_of_lt (by omega)]
theorem z7 {w:Nat}(x:BitVec w){j:Nat}(hj:j<w)(m:BitVec w)(hm:m.toNat=2 ^ j-1):(x &&& ~~~m).toNat=x.toNat / 2 ^ j*2 ^ j:=by
 apply Nat.eq_of_testBit_eq
 intro i
 rw[BitVec.testBit_toNat,BitVec.getLsbD_and,BitVec.getLsbD_not,Nat.testBit_mul_two_pow,Nat.testBit_div_two_pow,← BitVec.testBit_toNat,← BitVec.testBit_toNat,hm,Nat.testBit_two_pow_sub_one]
 by_cases h1:j≤i
 ·have e:i-j+j=i:=by omega
  by_cases h2:i<w
  ·simp[h1,h2,e,show ¬ i<j by omega]
  ·have:x.toNat.testBit i=false:=Nat.testBit_lt_two_pow (Nat.lt_of_lt_of_le x.isLt (Nat.pow_le_pow_right (by omega) (by omega)))
   simp[h2,this,e]
 ·simp[h1,show i<j by omega]
theorem jQ {w:Nat}{a:Int}(h0:0≤a)(h1:a<2 ^ w):(BitVec.ofInt w a).toNat=a.toNat:=by
 rw[BitVec.toNat_ofInt]
 rw[Int.emod_eq_of_lt h0 (by exact_mod_cast h1)]
section
variable {F:bY} {r:List bG} {Q:Env→ac→Prop} {env:Env} {h:ac} {d:Nat} {x y:bt}
theorem An {k:IntKind}{a b m:Int}(hx:ev env x = .int k a)(hy:ev env y = .int .u64 b)(hb:0≤b)(hm:(2:Int) ^ (min b.toNat k.bits)=m)(h0:0≤a)(hp:0<m)(k1:aw F r Q (env.put d (.int k (a / m))) h):aw F (⟨some d,.bin .shr x y,none⟩::r) Q env h:=by
 have e:a.fdiv m=a / m:=Int.fdiv_eq_ediv_of_nonneg a (by omega)
 simp[hx,hy,hm,e,show ¬ b<0 by omega,k1]
theorem Ao {k:IntKind}{a b v:Int}(hx:ev env x = .int k a)(hy:ev env y = .int .i64 b)(hb:0≤b)(hv:k.wrap (a*2 ^ (min b.toNat k.bits))=v)(k1:aw F r Q (env.put d (.int k v)) h):aw F (⟨some d,.bin .shl x y,none⟩::r) Q env h:=by
 simp[hx,hy,hv,show ¬ b<0 by omega,k1]
theorem sW {k:IntKind}{a m:Int}{j:Nat}(hj:j<k.bits)(hm:m=2 ^ j-1)(h0:0≤a)(h1:a<2 ^ k.bits):((BitVec.ofInt k.bits a &&& BitVec.ofInt k.bits m).toNat:Int)=a%2 ^ j:=by
 have hp:0<2 ^ j:=Nat.two_pow_pos j
 have hm0:0≤m:=by
  rw[hm];have:(1:Int)≤2 ^ j:=by exact_mod_cast hp
  omega
 have hlt:(2:Nat) ^ j≤2 ^ k.bits:=Nat.pow_le_pow_right (by omega) (by omega)
 have hm1:m<2 ^ k.bits:=by
  have:((2:Int) ^ j)≤2 ^ k.bits:=by exact_mod_cast hlt
  omega
 have e:m.toNat=2 ^ j-1:=by
  have:((2 ^ j:Nat):Int)=(2:Int) ^ j:=by push_cast;rfl
  omega
 rw[BitVec.toNat_and,jQ h0 h1,jQ hm0 hm1,e,Nat.and_two_pow_sub_one_eq_mod]
 have e2:((a.toNat:Nat):Int)=a:=by omega
 rw[Int.natCast_emod,e2]
 congr 1
theorem AG {k:IntKind}{a m:Int}{j:Nat}(hj:j<k.bits)(hm:m=2 ^ j-1)(h0:0≤a)(h1:a<2 ^ k.bits):((BitVec.ofInt k.bits a ||| BitVec.ofInt k.bits m).toNat:Int)=a / 2 ^ j*2 ^ j+m:=by
 have hp:0<2 ^ j:=Nat.two_pow_pos j
 have hm0:0≤m:=by
  rw[hm];have:(1:Int)≤2 ^ j:=by exact_mod_cast hp
  omega
 have hlt:(2:Nat) ^ j≤2 ^ k.bits:=Nat.pow_le_pow_right (by omega) (by omega)
 have hm1:m<2 ^ k.bits:=by
  have:((2:Int) ^ j)≤2 ^ k.bits:=by exact_mod_cast hlt
  omega
 have e:m.toNat=2 ^ j-1:=by
  have:((2 ^ j:Nat):Int)=(2:Int) ^ j:=by push_cast;rfl
  omega
 rw[BitVec.toNat_or,jQ h0 h1,jQ hm0 hm1,e,HW,← e,Int.natCast_add,Int.natCast_mul,Int.natCast_ediv]
 have e2:((a.toNat:Nat):Int)=a:=by omega
 have e3:((m.toNat:Nat):Int)=m:=by omega
 have e4:((2 ^ j:Nat):Int)=(2:Int) ^ j:=by push_cast;rfl
 rw[e2,e3,e4,Int.mul_comm]
theorem xF {k:IntKind}{a m:Int}{j:Nat}(hj:j<k.bits)(hm:m=2 ^ j-1)(h0:0≤a)(h1:a<2 ^ k.bits):((BitVec.ofInt k.bits a &&& ~~~BitVec.ofInt k.bits m).toNat:Int)=a / 2 ^ j*2 ^ j:=by
 have hp:0<2 ^ j:=Nat.two_pow_pos j
 have hm0:0≤m:=by
  rw[hm];have:(1:Int)≤2 ^ j:=by exact_mod_cast hp
  omega
 have hlt:(2:Nat) ^ j≤2 ^ k.bits:=Nat.pow_le_pow_right (by omega) (by omega)
 have hm1:m<2 ^ k.bits:=by
  have:((2:Int) ^ j)≤2 ^ k.bits:=by exact_mod_cast hlt
  omega
 have e:m.toNat=2 ^ j-1:=by
  have:((2 ^ j:Nat):Int)=(2:Int) ^ j:=by push_cast;rfl
  omega
 rw[z7 _ hj _ (by rw[jQ hm0 hm1,e]),jQ h0 h1,Int.natCast_mul,Int.natCast_ediv]
 have e2:((a.toNat:Nat):Int)=a:=by omega
 have e4:((2 ^ j:Nat):Int)=(2:Int) ^ j:=by push_cast;rfl
 rw[e2,e4]
theorem m8 {a:Int}(h0:0≤a)(h1:a≤9223372036854775807):IntKind.i64.wrap a=a:=by simp[IntKind.wrap,IntKind.bits,IntKind.signed];omega
theorem IC {a:Int}(h0:0≤a)(h1:a≤255):IntKind.u8.wrap a=a:=by simp[IntKind.wrap,IntKind.bits,IntKind.signed];omega
theorem jW {k:IntKind}{op:BinOp}{a b v:Int}(hx:ev env x = .int k a)(hy:ev env y = .int k b)(hv:wT op (.int k a) (.int k b)=some (.int k v))(k1:aw F r Q (env.put d (.int k v)) h):aw F (⟨some d,.bin op x y,none⟩::r) Q env h:=by
 rw[bM,w0,hx,hy,hv]
 exact k1
theorem HK {a:Int}(hx:ev env x = .int .u8 a)(hy:ev env y = .int .u8 63)(h0:0≤a)(h1:a≤255)(k1:aw F r Q (env.put d (.int .u8 (a%64))) h):aw F (⟨some d,.bin .and x y,none⟩::r) Q env h:=by
 have e:=sW (k := .u8) (a:=a) (m:=63) (j:=6) (by decide) rfl h0 (by show a<256;omega)
 refine jW hx hy ?_ k1
 show some (AV.int .u8 (IntKind.u8.wrap _))=_
 rw[e]
 exact congrArg (fun v=>some (AV.int .u8 v)) (IC (by show 0≤a%64;omega) (by show a%64≤_;omega))
theorem Ap {c a:Int}{j:Nat}(hx:ev env x = .int .u8 c)(hy:ev env y = .int .u8 a)(hj:c=2 ^ j*(c / 2 ^ j))(h0:0≤a)(h1:a<2 ^ j)(hc:0≤c)(hca:c+a≤255)(k1:aw F r Q (env.put d (.int .u8 (c+a))) h):aw F (⟨some d,.bin .or x y,none⟩::r) Q env h:=by
 have hc1:c<2 ^ IntKind.u8.bits:=by show c<256;omega
 have ha1:a<2 ^ IntKind.u8.bits:=by show a<256;omega
 have e4:((2 ^ j:Nat):Int)=(2:Int) ^ j:=by push_cast;rfl
 have e:((BitVec.ofInt IntKind.u8.bits c ||| BitVec.ofInt IntKind.u8.bits a).toNat:Int)=c+a:=by
  rw[BitVec.toNat_or,jQ hc hc1,jQ h0 ha1]
  have g1:c.toNat=2 ^ j*(c.toNat / 2 ^ j):=by
   have e3:((c.toNat:Nat):Int)=c:=by omega
   have:((c.toNat:Nat):Int)=((2 ^ j*(c.toNat / 2 ^ j):Nat):Int):=by
    rw[Int.natCast_mul,Int.natCast_ediv,e4,e3];exact hj
   exact Int.ofNat.inj this
  rw[g1,← Nat.two_pow_add_eq_or_of_lt (by omega),← g1]
  omega
 refine jW hx hy ?_ k1
 show some (AV.int .u8 (IntKind.u8.wrap _))=_
 rw[e]
 exact congrArg (fun v=>some (AV.int .u8 v)) (IC (by omega) hca)
theorem qr {k:IntKind}{a:Int}(hx:ev env x = .int k a)(h0:0≤a)(k1:aw F r Q (env.put d (.int .u8 (a%256))) h):aw F (⟨some d,.conv .u8 x,none⟩::r) Q env h:=by
 have:IntKind.u8.wrap a=a%256:=by simp[IntKind.wrap,IntKind.bits,IntKind.signed]
 simp[hx,this,k1]
theorem v6 {k:IntKind}{a:Int}(hx:ev env x = .int k a)(h0 : -2147483648≤a)(h1:a≤2147483647)(k1:aw F r Q (env.put d (.int .i32 a)) h):aw F (⟨some d,.conv .i32 x,none⟩::r) Q env h:=by
 have:IntKind.i32.wrap a=a:=by simp[IntKind.wrap,IntKind.bits,IntKind.signed];omega
 simp[hx,this,k1]
theorem pD {k:IntKind}{a:Int}(hx:ev env x = .int k a)(h0:0≤a)(h1:a≤4294967295)(k1:aw F r Q (env.put d (.int .u32 a)) h):aw F (⟨some d,.conv .u32 x,none⟩::r) Q env h:=by
 have:IntKind.u32.wrap a=a:=by simp[IntKind.wrap,IntKind.bits,IntKind.signed];omega
 simp[hx,this,k1]
theorem FI {a:Int}(hx:ev env x = .int .i64 a)(hy:ev env y = .int .i64 63)(h0:0≤a)(h1:a≤1114111)(k1:aw F r Q (env.put d (.int .i64 (a%64))) h):aw F (⟨some d,.bin .and x y,none⟩::r) Q env h:=by
 have e:=sW (k := .i64) (a:=a) (m:=63) (j:=6) (by decide) rfl h0 (by show a<18446744073709551616;omega)
 refine jW hx hy ?_ k1
 show some (AV.int .i64 (IntKind.i64.wrap _))=_
 rw[e]
 exact congrArg (fun v=>some (AV.int .i64 v)) (m8 (by show 0≤a%64;omega) (by show a%64≤_;omega))
theorem yJ {a:Int}(hx:ev env x = .int .i64 a)(hy:ev env y = .int .i64 63)(h0:0≤a)(h1:a≤1114111)(k1:aw F r Q (env.put d (.int .i64 (a / 64*64))) h):aw F (⟨some d,.bin .andNot x y,none⟩::r) Q env h:=by
 have e:=xF (k := .i64) (a:=a) (m:=63) (j:=6) (by decide) rfl h0 (by show a<18446744073709551616;omega)
 refine jW hx hy ?_ k1
 show some (AV.int .i64 (IntKind.i64.wrap _))=_
 rw[e]
 exact congrArg (fun v=>some (AV.int .i64 v)) (m8 (by show 0≤a / 64*64;omega) (by show a / 64*64≤_;omega))
theorem HH {a:Int}(hx:ev env x = .int .i64 a)(hy:ev env y = .int .i64 63)(h0:0≤a)(h1:a≤1114111)(k1:aw F r Q (env.put d (.int .i64 (a / 64*64+63))) h):aw F (⟨some d,.bin .or x y,none⟩::r) Q env h:=by
 have e:=AG (k := .i64) (a:=a) (m:=63) (j:=6) (by decide) rfl h0 (by show a<18446744073709551616;omega)
 refine jW hx hy ?_ k1
 show some (AV.int .i64 (IntKind.i64.wrap _))=_
 rw[e]
 exact congrArg (fun v=>some (AV.int .i64 v)) (m8 (by show 0≤a / 64*64+63;omega) (by show a / 64*64+63≤_;omega))
theorem Ar {a:Int}(hx:ev env x = .int .i64 a)(hy:ev env y = .int .i64 4095)(h0:0≤a)(h1:a≤1114111)(k1:aw F r Q (env.put d (.int .i64 (a%4096))) h):aw F (⟨some d,.bin .and x y,none⟩::r) Q env h:=by
 have e:=sW (k := .i64) (a:=a) (m:=4095) (j:=12) (by decide) rfl h0 (by show a<18446744073709551616;omega)
 refine jW hx hy ?_ k1
 show some (AV.int .i64 (IntKind.i64.wrap _))=_
 rw[e]
 exact congrArg (fun v=>some (AV.int .i64 v)) (m8 (by show 0≤a%4096;omega) (by show a%4096≤_;omega))
theorem uX {a:Int}(hx:ev env x = .int .i64 a)(hy:ev env y = .int .i64 4095)(h0:0≤a)(h1:a≤1114111)(k1:aw F r Q (env.put d (.int .i64 (a / 4096*4096))) h):aw F (⟨some d,.bin .andNot x y,none⟩::r) Q env h:=by
 have e:=xF (k := .i64) (a:=a) (m:=4095) (j:=12) (by decide) rfl h0 (by show a<18446744073709551616;omega)
 refine jW hx hy ?_ k1
 show some (AV.int .i64 (IntKind.i64.wrap _))=_
 rw[e]
 exact congrArg (fun v=>some (AV.int .i64 v)) (m8 (by show 0≤a / 4096*4096;omega) (by show a / 4096*4096≤_;omega))
theorem CK {a:Int}(hx:ev env x = .int .i64 a)(hy:ev env y = .int .i64 4095)(h0:0≤a)(h1:a≤1114111)(k1:aw F r Q (env.put d (.int .i64 (a / 4096*4096+4095))) h):aw F (⟨some d,.bin .or x y,none⟩::r) Q env h:=by
 have e:=AG (k := .i64) (a:=a) (m:=4095) (j:=12) (by decide) rfl h0 (by show a<18446744073709551616;omega)
 refine jW hx hy ?_ k1
 show some (AV.int .i64 (IntKind.i64.wrap _))=_
 rw[e]
 exact congrArg (fun v=>some (AV.int .i64 v)) (m8 (by show 0≤a / 4096*4096+4095;omega) (by show a / 4096*4096+4095≤_;omega))
theorem xl {a:Int}(hx:ev env x = .int .i64 a)(hy:ev env y = .int .i64 262143)(h0:0≤a)(h1:a≤1114111)(k1:aw F r Q (env.put d (.int .i64 (a%262144))) h):aw F (⟨some d,.bin .and x y,none⟩::r) Q env h:=by
 have e:=sW (k := .i64) (a:=a) (m:=262143) (j:=18) (by decide) rfl h0 (by show a<18446744073709551616;omega)
 refine jW hx hy ?_ k1
 show some (AV.int .i64 (IntKind.i64.wrap _))=_
 rw[e]
 exact congrArg (fun v=>some (AV.int .i64 v)) (m8 (by show 0≤a%262144;omega) (by show a%262144≤_;omega))
theorem sE {a:Int}(hx:ev env x = .int .i64 a)(hy:ev env y = .int .i64 262143)(h0:0≤a)(h1:a≤1114111)(k1:aw F r Q (env.put d (.int .i64 (a / 262144*262144))) h):aw F (⟨some d,.bin .andNot x y,none⟩::r) Q env h:=by
 have e:=xF (k := .i64) (a:=a) (m:=262143) (j:=18) (by decide) rfl h0 (by show a<18446744073709551616;omega)
 refine jW hx hy ?_ k1
 show some (AV.int .i64 (IntKind.i64.wrap _))=_
 rw[e]
 exact congrArg (fun v=>some (AV.int .i64 v)) (m8 (by show 0≤a / 262144*262144;omega) (by show a / 262144*262144≤_;omega))
theorem yD {a:Int}(hx:ev env x = .int .i64 a)(hy:ev env y = .int .i64 262143)(h0:0≤a)(h1:a≤1114111)(k1:aw F r Q (env.put d (.int .i64 (a / 262144*262144+262143))) h):aw F (⟨some d,.bin .or x y,none⟩::r) Q env h:=by
 have e:=AG (k := .i64) (a:=a) (m:=262143) (j:=18) (by decide) rfl h0 (by show a<18446744073709551616;omega)
 refine jW hx hy ?_ k1
 show some (AV.int .i64 (IntKind.i64.wrap _))=_
 rw[e]
 exact congrArg (fun v=>some (AV.int .i64 v)) (m8 (by show 0≤a / 262144*262144+262143;omega) (by show a / 262144*262144+262143≤_;omega))
end
end
section
open Go
set_option maxHeartbeats 4000000
attribute [local irreducible] aw bd bm cV bz cu dF bH wop cz a8
@[reducible] def jZ (l:List Int)(fl:Bool):AV := .rd l.length (l.map (.int .u8)) fl
@[simp] theorem Ku (l:List Int):AV.frozenL (l.map (AV.int .u8))=true:=ez (fun r=>by simp[AV.frozen]) l
theorem Fq {Φ:Lib}(L:eW Φ)(r:Int)(h0:0≤r)(h1:r≤1114111):eV Φ 294 [.int .i32 r] (.bool (cx r)):=by
 refine aY (fun _=>false) rfl L.f294 ?_
 have hs:cx r=decide (r<55296∨57343<r):=by
  by_cases h:r<55296∨57343<r
  ·rw[decide_eq_true h];exact cw.2 ⟨h0,h1,h⟩
  ·rw[decide_eq_false h]
   cases e:cx r with
   | false=>rfl
   | true=>exact absurd (cw.1 e).2.2 h
 rw[hs]
 repeat' first|apply ad|(apply gw;first|(apply gq0;first|refine am rfl ?_|refine bj rfl ?_)|(apply gq1;first|refine cr rfl ?_|refine bP rfl ?_)|(apply gq3;first|(refine aA rfl rfl rfl ?_ ?_<;>(intro hc;try (exfalso;omega)))|(refine iS rfl rfl rfl ?_ ?_<;>(intro hc;try (exfalso;omega))))|(apply gq7;first|refine aZ rfl rfl ?_|refine bc rfl rfl ?_))|(apply gx;first|apply af|refine ae rfl ?_|apply az|apply al|apply aM|refine ak rfl ?_|refine ah rfl ?_)|apply aa|apply cv|apply aD|apply fM
 all_goals first
  | exact aH (v := .bool true) rfl (by rw[decide_eq_true (by omega)])
  | exact aH (v := .bool false) rfl (by rw[decide_eq_false (by omega)])
  | trace_state
set_option maxRecDepth 100000 in
theorem zl {Φ:Lib}(L:eW Φ)(r:Int)(h0:128≤r)(h1:r≤1114111)(hs:cx r=true):eV Φ 307 [.rd 0 [] true,.int .i32 r] (jZ (bu r) false):=by
 have hsc:=(cw.1 hs).2.2
 refine aY (fun _=>false) rfl L.f307 ?_
 repeat' first|apply ad|(apply gw;first|(apply gq0;first|refine am rfl ?_|refine bj rfl ?_|refine aG rfl ?_|refine ar rv_ ?_)|refine bP rfl ?_|(apply gq3;first|(refine aA rfl rfl rfl ?_ ?_<;>(intro hc;try (exfalso;omega)))|(refine iS rfl rfl rfl ?_ ?_<;>(intro hc;try (exfalso;omega)))|(refine cY rfl rfl rfl ?_ ?_<;>(intro hc;try (exfalso;omega)))|refine An (m:=64) rfl rfl (by omega) rfl (by omega) (by omega) ?_|refine An (m:=4096) rfl rfl (by omega) rfl (by omega) (by omega) ?_|refine An (m:=262144) rfl rfl (by omega) rfl (by omega) (by omega) ?_|refine HK rfl rfl (by omega) (by omega) ?_|refine Ap (j:=6) rfl rfl (by decide) (by omega) (by show _<(64:Int);omega) (by omega) (by omega) ?_|refine Ap (j:=5) rfl rfl (by decide) (by omega) (by show _<(32:Int);omega) (by omega) (by omega) ?_|refine Ap (j:=4) rfl rfl (by decide) (by omega) (by show _<(16:Int);omega) (by omega) (by omega) ?_)|refine aZ rfl rfl ?_|(refine aW rv_ ir_ rfl (by simp) (by first|omega|(simp;omega)) ?_;intro va hpa hra hka hria)|(apply Ke;first|refine bk (cs:=[AV.int _ _,AV.int _ _]) rfl rfl ?_|refine bk (cs:=[AV.int _ _,AV.int _ _,AV.int _ _,AV.int _ _]) rfl rfl ?_|refine bk rfl rfl ?_)|(apply Jp;first|refine qr rfl (by omega) ?_|refine pD rfl (by omega) (by omega) ?_))|(apply gx;first|apply af|refine ae rfl ?_|apply az|apply al|apply aM|refine ak rfl ?_|refine ah rfl ?_)|apply aa|apply fM
 ·refine fe rfl (show aC hpa va 1 2 [AV.int .u8 (192+r / 64%256),AV.int .u8 (128+r%256%64)] from hra) (fun _=>?_)
  rw[sm (by omega) (by omega),show 192+r / 64%256=192+r / 64 by omega,show 128+r%256%64=128+r%64 by omega]
  rfl
 ·refine fe rfl (show aC hpa va 1 3 [AV.int .u8 (224+r / 4096%256),AV.int .u8 (128+r / 64%256%64),AV.int .u8 (128+r%256%64)] from hra) (fun _=>?_)
  rw[qU (by omega) (by omega),show 224+r / 4096%256=224+r / 4096 by omega,show 128+r / 64%256%64=128+r / 64%64 by omega,show 128+r%256%64=128+r%64 by omega]
  rfl
 ·refine fe rfl (show aC hpa va 1 3 [AV.int .u8 (224+r / 4096%256),AV.int .u8 (128+r / 64%256%64),AV.int .u8 (128+r%256%64)] from hra) (fun _=>?_)
  rw[qU (by omega) (by omega),show 224+r / 4096%256=224+r / 4096 by omega,show 128+r / 64%256%64=128+r / 64%64 by omega,show 128+r%256%64=128+r%64 by omega]
  rfl
 ·refine fe rfl (show aC hpa va 1 4 [AV.int .u8 (240+r / 262144%256),AV.int .u8 (128+r / 4096%256%64),AV.int .u8 (128+r / 64%256%64),AV.int .u8 (128+r%256%64)] from hra) (fun _=>?_)
  rw[sl (by omega),show 240+r / 262144%256=240+r / 262144 by omega,show 128+r / 4096%256%64=128+r / 4096%64 by omega,show 128+r / 64%256%64=128+r / 64%64 by omega,show 128+r%256%64=128+r%64 by omega]
  rfl
theorem Hl {Φ:Lib}(L:eW Φ)(r:Int)(h0:0≤r)(h1:r≤1114111)(hs:cx r=true):eV Φ 295 [.rd 0 [] true,.int .i32 r] (jZ (bu r) false):=by
 refine aY (fun _=>false) rfl L.f295 ?_
 by_cases h:r<128
 ·repeat' first|apply ad|(apply gw;first|(apply gq0;first|refine am rfl ?_|refine aG rfl ?_|refine ar rv_ ?_)|(refine iS rfl rfl rfl ?_ ?_<;>(intro hc;try (exfalso;omega)))|(refine aW (m:=1) rv_ ir_ rfl rfl (by omega) ?_;intro va hpa hra hka hria)|refine bk (cs:=[AV.int _ _]) rfl rfl ?_|(apply Jp;first|refine qr rfl (by omega) ?_|refine pD rfl (by omega) (by omega) ?_))|(apply gx;first|apply af|refine ae rfl ?_|apply aM|refine ak rfl ?_)|apply aa|apply cv
  refine fe rfl (show aC hpa va 1 1 [AV.int .u8 (r%256)] from hra) (fun _=>?_)
  rw[sn h,show r%256=r by omega]
  rfl
 ·have k:=zl L r (by omega) h1 hs
  repeat' first|apply ad|(apply gw;first|(apply gq0;first|refine am rfl ?_|refine aG rfl ?_)|(refine iS rfl rfl rfl ?_ ?_<;>(intro hc;try (exfalso;omega)))|refine aI rfl nt_ ?_|refine pD rfl (by omega) (by omega) ?_)|(apply gx;first|apply af|refine ae rfl ?_|apply az|apply aM|refine ah rfl ?_)|apply aa|refine aX (by assumption) fz_ fz_ ?_
  exact aH (v:=jZ (bu r) false) rfl rfl
def uv (r:Int):AV:=if cx r=true then jZ (bu r) false else .rd 0 [] true
theorem rJ {Φ:Lib}(L:eW Φ)(r:Int):eV Φ 277 [.int .i64 r] (uv r):=by
 refine aY (fun _=>false) rfl L.f277 ?_
 have hno:¬ (0≤r∧r≤1114111)→cx r=false:=fun h=>by
  cases e:cx r with
  | false=>rfl
  | true=>have:=cw.1 e;omega
 by_cases h0:r<0
 ·have e:=hno (by omega)
  repeat' first|apply ad|(apply gw;first|(apply gq0;first|refine am rfl ?_|refine bj rfl ?_|refine aG rfl ?_)|refine cr rfl ?_|(refine aA rfl rfl rfl ?_ ?_<;>(intro hc;try (exfalso;omega)))|refine aZ rfl rfl ?_)|(apply gx;first|apply af|refine ae rfl ?_|apply aM|refine ak rfl ?_)|apply aa|apply cv
  all_goals exact aH (v := .rd 0 [] true) rfl (by unfold uv;rw[e];rfl)
 by_cases h1:1114111<r
 ·have e:=hno (by omega)
  repeat' first|apply ad|(apply gw;first|(apply gq0;first|refine am rfl ?_|refine bj rfl ?_|refine aG rfl ?_)|(apply gq1;first|refine cr rfl ?_|refine bP rfl ?_)|(apply gq3;first|(refine aA rfl rfl rfl ?_ ?_<;>(intro hc;try (exfalso;omega)))|(refine cY rfl rfl rfl ?_ ?_<;>(intro hc;try (exfalso;omega))))|(apply gq7;first|refine aZ rfl rfl ?_|refine bc rfl rfl ?_))|(apply gx;first|apply af|refine ae rfl ?_|apply aM|refine ak rfl ?_)|apply aa|apply cv
  all_goals exact aH (v := .rd 0 [] true) rfl (by unfold uv;rw[e];rfl)
 have k1:=Fq L r (by omega) (by omega)
 cases hs:cx r with
 | false =>
  rw[hs]at k1
  repeat' first|apply ad|(apply gw;first|(apply gq0;first|refine am rfl ?_|refine bj rfl ?_|refine aG rfl ?_)|refine bP rfl ?_|(apply gq3;first|(refine aA rfl rfl rfl ?_ ?_<;>(intro hc;try (exfalso;omega)))|(refine cY rfl rfl rfl ?_ ?_<;>(intro hc;try (exfalso;omega))))|refine bc rfl rfl ?_|refine aI rfl nt_ ?_|refine dq (b:=false) rfl ?_|refine v6 rfl (by omega) (by omega) ?_)|(apply gx;first|apply af|refine ae rfl ?_|apply aM|refine ak rfl ?_)|apply aa|apply cv|refine aX (by assumption) fz_ fz_ ?_
  all_goals exact aH (v := .rd 0 [] true) rfl (by unfold uv;rw[hs];rfl)
 | true =>
  rw[hs]at k1
  have k2:=Hl L r (by omega) (by omega) hs
  repeat' first|apply ad|(apply gw;first|(apply gq0;first|refine am rfl ?_|refine bj rfl ?_|refine aG rfl ?_)|refine bP rfl ?_|(apply gq3;first|(refine aA rfl rfl rfl ?_ ?_<;>(intro hc;try (exfalso;omega)))|(refine cY rfl rfl rfl ?_ ?_<;>(intro hc;try (exfalso;omega))))|refine bc rfl rfl ?_|refine aI rfl nt_ ?_|refine dq (b:=true) rfl ?_|refine v6 rfl (by omega) (by omega) ?_)|(apply gx;first|apply af|refine ae rfl ?_|apply az|apply aM|refine ah rfl ?_)|apply aa|refine aX (by assumption) fz_ fz_ ?_
  all_goals exact aH (v:=jZ (bu r) false) rfl (by unfold uv;rw[hs];rfl)
end
section
open Go
set_option maxHeartbeats 4000000
attribute [local irreducible] aw bd bm cV bz cu dF bH wop cz a8
def lvY (k:Nat):Int:=if k=1 then 64 else if k=2 then 4096 else 262144
theorem Er {n k:Nat}(h1:1≤k)(h2:k<n)(h3:n≤4):(iY n).drop (k-1)=lvY k::(iY n).drop k:=by
 have:(n=2∧k=1)∨(n=3∧k=1)∨(n=3∧k=2)∨(n=4∧k=1)∨(n=4∧k=2)∨(n=4∧k=3):=by omega
 rcases this with⟨rfl,rfl⟩|⟨rfl,rfl⟩|⟨rfl,rfl⟩|⟨rfl,rfl⟩|⟨rfl,rfl⟩|⟨rfl,rfl⟩<;>rfl
theorem Es (n:Nat):(iY n).drop (n-1)=[]:=by
 unfold iY
 split<;>simp
set_option maxRecDepth 100000 in
theorem Eu {Φ:Lib}(L:eW Φ)(s:aj)(h0:0≤s.lo)(hle:s.lo≤s.hi)(h1:s.hi≤1114111)(hs:cx s.lo=true):eV Φ 292 [.agg s.av] (.int .i64 (eM s)):=by
 have ke:=rJ L s.lo
 have e:uv s.lo=jZ (bu s.lo) false:=by unfold uv;rw[if_pos hs]
 rw[e]at ke
 have hl:=dG s.lo
 have hr:=c8 s.lo
 refine aY (fun _=>false) rfl L.f292 ?_
 repeat' first|apply ad|(apply gw;first|refine am rfl ?_|refine aq rfl hg_ (by simp) b_ pv_ ?_|refine au rfl (Nat.zero_add _) ?_|refine ay rfl ?_|refine aI rfl nt_ ?_|(refine iT (v:=AV.agg _) rfl rfl ?_;intro id hid;try simp only[ac.set_none]at hid))|(apply gx;first|apply af|refine ae rfl ?_|apply al)|apply aa|refine aX (by assumption) fz_ fz_ ?_
 rw[hl]
 obtain⟨ib,rfl⟩:∃ x,x=id:=⟨_,rfl⟩
 refine hZ (fun m env h'=>∃ k:Nat,m=bB s.lo-k∧1≤k∧k≤bB s.lo∧fF ((iY (bB s.lo)).drop (k-1)) s=eM s∧h'.get ib=some (.cells 0 s.av)∧env.has [(1,.ptr ib 0 0),(3,.int .i64 (bB s.lo)),(4,.int .i64 k)]) _ ⟨1,rfl,Nat.le_refl _,hr.1,rfl,ac.get_set_self _ _ _,hh_⟩ ?_
 clear hid
 rintro m env h' ⟨k,rfl,hk1,hk2,hpl,hb,he⟩
 obtain⟨env,rfl⟩:=he.ex
 clear he
 by_cases hk3:k<bB s.lo
 ·rw[Er hk1 hk3 hr.2]at hpl
  unfold fF at hpl
  have hkk:k=1∨k=2∨k=3:=by omega
  rcases hkk with rfl|rfl|rfl
  ·rw[show lvY 1=64 from rfl]at hpl
   repeat' first|apply ad|(apply gw;first|(apply gq0;first|refine am rfl ?_|refine bj rfl ?_)|refine aq rfl hg_ (by simp) b_ pv_ ?_|(apply gq3;first|refine aQ rfl rfl rfl (by omega) (by omega) ?_|refine eJ rfl rfl rfl (by omega) (by omega) ?_|(refine aA rfl rfl rfl ?_ ?_<;>(intro hc;try (exfalso;omega)))|(refine cn rfl rfl rfl ?_ ?_<;>(intro hc;try (exfalso;omega)))|(refine fq rfl rfl rfl ?_ ?_<;>(intro hc;try (exfalso;omega)))|refine ng rfl rfl rfl (by omega) (by omega) ?_|refine Ao (v:=64) rfl rfl (by omega) rfl ?_|refine FI rfl rfl (by omega) (by omega) ?_|refine yJ rfl rfl (by omega) (by omega) ?_|refine HH rfl rfl (by omega) (by omega) ?_)|refine au rfl (Nat.zero_add _) ?_)|(apply gx;first|apply af|refine ae rfl ?_|apply az|apply al|apply aM|apply aJ|refine ak rfl ?_|refine ah rfl ?_)|apply aa|apply cv|apply aK|apply aD|apply fM|apply aL|apply kX
   all_goals first
    | (
     refine aH (v := .int .i64 (s.lo / 64*64+63+1)) rfl ?_
     rw[← hpl,if_neg (by omega),if_pos (by omega)]
     exact congrArg (AV.int .i64) (by omega))
    | (
     refine aH (v := .int .i64 (s.hi / 64*64)) rfl ?_
     rw[← hpl,if_neg (by omega),if_neg (by omega),if_pos (by omega)])
    | (
     refine ft (bB s.lo-2) (by omega) ⟨2,rfl,by omega,by omega,?_,hb,hh_⟩
     first
      | (rw[if_pos (by omega)]at hpl;exact hpl)
      | (rw[if_neg (by omega),if_neg (by omega),if_neg (by omega)]at hpl;exact hpl))
  ·rw[show lvY 2=4096 from rfl]at hpl
   repeat' first|apply ad|(apply gw;first|(apply gq0;first|refine am rfl ?_|refine bj rfl ?_)|refine aq rfl hg_ (by simp) b_ pv_ ?_|(apply gq3;first|refine aQ rfl rfl rfl (by omega) (by omega) ?_|refine eJ rfl rfl rfl (by omega) (by omega) ?_|(refine aA rfl rfl rfl ?_ ?_<;>(intro hc;try (exfalso;omega)))|(refine cn rfl rfl rfl ?_ ?_<;>(intro hc;try (exfalso;omega)))|(refine fq rfl rfl rfl ?_ ?_<;>(intro hc;try (exfalso;omega)))|refine ng rfl rfl rfl (by omega) (by omega) ?_|refine Ao (v:=4096) rfl rfl (by omega) rfl ?_|refine Ar rfl rfl (by omega) (by omega) ?_|refine uX rfl rfl (by omega) (by omega) ?_|refine CK rfl rfl (by omega) (by omega) ?_)|refine au rfl (Nat.zero_add _) ?_)|(apply gx;first|apply af|refine ae rfl ?_|apply az|apply al|apply aM|apply aJ|refine ak rfl ?_|refine ah rfl ?_)|apply aa|apply cv|apply aK|apply aD|apply fM|apply aL|apply kX
   all_goals first
    | (
     refine aH (v := .int .i64 (s.lo / 4096*4096+4095+1)) rfl ?_
     rw[← hpl,if_neg (by omega),if_pos (by omega)]
     exact congrArg (AV.int .i64) (by omega))
    | (
     refine aH (v := .int .i64 (s.hi / 4096*4096)) rfl ?_
     rw[← hpl,if_neg (by omega),if_neg (by omega),if_pos (by omega)])
    | (
     refine ft (bB s.lo-3) (by omega) ⟨3,rfl,by omega,by omega,?_,hb,hh_⟩
     first
      | (rw[if_pos (by omega)]at hpl;exact hpl)
      | (rw[if_neg (by omega),if_neg (by omega),if_neg (by omega)]at hpl;exact hpl))
  ·rw[show lvY 3=262144 from rfl]at hpl
   repeat' first|apply ad|(apply gw;first|(apply gq0;first|refine am rfl ?_|refine bj rfl ?_)|refine aq rfl hg_ (by simp) b_ pv_ ?_|(apply gq3;first|refine aQ rfl rfl rfl (by omega) (by omega) ?_|refine eJ rfl rfl rfl (by omega) (by omega) ?_|(refine aA rfl rfl rfl ?_ ?_<;>(intro hc;try (exfalso;omega)))|(refine cn rfl rfl rfl ?_ ?_<;>(intro hc;try (exfalso;omega)))|(refine fq rfl rfl rfl ?_ ?_<;>(intro hc;try (exfalso;omega)))|refine ng rfl rfl rfl (by omega) (by omega) ?_|refine Ao (v:=262144) rfl rfl (by omega) rfl ?_|refine xl rfl rfl (by omega) (by omega) ?_|refine sE rfl rfl (by omega) (by omega) ?_|refine yD rfl rfl (by omega) (by omega) ?_)|refine au rfl (Nat.zero_add _) ?_)|(apply gx;first|apply af|refine ae rfl ?_|apply az|apply al|apply aM|apply aJ|refine ak rfl ?_|refine ah rfl ?_)|apply aa|apply cv|apply aK|apply aD|apply fM|apply aL|apply kX
   all_goals first
    | (
     refine aH (v := .int .i64 (s.lo / 262144*262144+262143+1)) rfl ?_
     rw[← hpl,if_neg (by omega),if_pos (by omega)]
     exact congrArg (AV.int .i64) (by omega))
    | (
     refine aH (v := .int .i64 (s.hi / 262144*262144)) rfl ?_
     rw[← hpl,if_neg (by omega),if_neg (by omega),if_pos (by omega)])
    | (
     refine ft (bB s.lo-4) (by omega) ⟨4,rfl,by omega,by omega,?_,hb,hh_⟩
     first
      | (rw[if_pos (by omega)]at hpl;exact hpl)
      | (rw[if_neg (by omega),if_neg (by omega),if_neg (by omega)]at hpl;exact hpl))
 ·have hk4:k=bB s.lo:=by omega
  subst hk4
  rw[Es]at hpl
  repeat' first|apply ad|(apply gw;first|refine am rfl ?_|(refine aA rfl rfl rfl ?_ ?_<;>(intro hc;try (exfalso;omega))))|(apply gx;first|apply af|refine ae rfl ?_|apply aM|apply aJ|refine ah rfl ?_)|apply aa|apply aK|apply aL|apply aR
  refine aH (v := .int .i64 0) rfl ?_
  rw[← hpl]
  rfl
end
section
open Go
set_option maxHeartbeats 4000000
attribute [local irreducible] aw bd bm cV bz cu dF bH wop cz a8
def Ic:List Int:=[127,2047,65535,1114111]
def GL:List Int:=[0,128,2048,65536,1114112]
theorem Ib {j:Nat}(h:j<4):∃ p,jq[j]?=some p∧Ic[j]?=some p.2∧GL.getD j 0=p.1∧GL.getD (j+1) 0=p.2+1∧0≤p.1∧p.2≤1114111∧0≤p.2:=by
 have:j=0∨j=1∨j=2∨j=3:=by omega
 rcases this with rfl|rfl|rfl|rfl
 ·exact⟨_,rfl,rfl,rfl,rfl,by decide,by decide,by decide⟩
 ·exact⟨_,rfl,rfl,rfl,rfl,by decide,by decide,by decide⟩
 ·exact⟨_,rfl,rfl,rfl,rfl,by decide,by decide,by decide⟩
 ·exact⟨_,rfl,rfl,rfl,rfl,by decide,by decide,by decide⟩
def sH (s:aj)(p:Int×Int):Option aj:=if max s.lo p.1≤min s.hi p.2 then some ⟨max s.lo p.1,min s.hi p.2⟩ else none
theorem CT (s:aj):cZ s=jq.filterMap (sH s):=rfl
theorem Av (s:aj):(cZ s).length≤4:=by
 unfold cZ
 exact Nat.le_trans (List.length_filterMap_le _ _) (by simp[jq])
theorem wc (l:List aj):(l.flatMap cZ).length≤4*l.length:=by
 induction l with
 | nil=>simp
 | cons s l ih =>
  have:=Av s
  rw[List.flatMap_cons,List.length_append,List.length_cons]
  omega
theorem EQ {Φ:Lib}(L:eW Φ):eV Φ 293 [] (.rd 4 (Ic.map (.int .i64)) true):=by
 refine aY (fun _=>false) rfl L.f293 ?_
 repeat' first|apply ad|(apply gw;first|refine aG rfl ?_|refine bk (cs:=[AV.int _ _,AV.int _ _,AV.int _ _,AV.int _ _]) rfl rfl ?_)|(apply gx;first|apply af|refine ae rfl ?_|apply aM)|apply aa
 exact aH (v := .rd 4 (Ic.map (.int .i64)) true) rfl rfl
set_option maxRecDepth 100000 in
theorem E9 {Φ:Lib}(L:eW Φ)(l:List aj)(fl:Bool)(hl:l.length≤1048576):eV Φ 276 [.rd l.length (l.flatMap aj.av) fl] (.rd (l.flatMap cZ).length ((l.flatMap cZ).flatMap aj.av) false):=by
 have kl:=EQ L
 refine aY (fun _=>false) rfl L.f276 ?_
 repeat' first|apply ad|(apply gw;first|(apply gq0;first|refine am rfl ?_|refine aG rfl ?_)|refine ay rfl ?_)|(apply gx;first|apply af|refine ae rfl ?_|apply al)|apply aa
 refine bD l.length (fun i env h'=>∃ v,Sep h' [jA ac.empty,cB v 2 ((l.take i).flatMap cZ).length (((l.take i).flatMap cZ).flatMap aj.av)]∧env.has [(3,v),(10,.rd l.length (l.flatMap aj.av) fl),(11,.int .i64 l.length),(12,.int .i64 i)]) ⟨_,(Sep.old ac.empty).nil 2,hh_⟩ ?_
 rintro i env h' hi ⟨v,hS,he⟩
 have hrow:aC h' v 2 _ _:=hS.get (i:=1) rfl
 obtain⟨env,rfl⟩:=he.ex
 clear he
 by_cases hi2:i<l.length
 ·obtain⟨s,hs⟩:=aN hi2
  clear hrow
  repeat' first|apply ad|(apply gw;first|refine am rfl ?_|refine jG rfl (by first|rfl|(simp[*];done)|fail) ?_|(refine aA rfl rfl rfl ?_ ?_<;>(intro hc;try (exfalso;omega)))|refine dD rfl fl_ rfl hs (by omega) rfl ?_|refine ay rfl ?_|refine aI rfl nt_ ?_|(refine cd ?_;intro id hid;try simp only[ac.set_none]at hid)|refine cE (cs':=[AV.int _ _,AV.int _ _]) rfl rfl rfl rfl b_ rfl ?_)|(apply gx;first|apply af|refine ae rfl ?_|apply az|apply al|refine ak rfl ?_)|apply aa|refine aX (by assumption) fz_ fz_ ?_
  obtain⟨i5,rfl⟩:∃ x,x=id:=⟨_,rfl⟩
  have hS1:=hS.new (o := .cells 0 s.av) hid
  clear hS hid
  refine bD 4 (fun j env h'=>∃ v,Sep h' [jA ac.empty,cB v 2 ((l.take i).flatMap cZ++(jq.take j).filterMap (sH s)).length (((l.take i).flatMap cZ++(jq.take j).filterMap (sH s)).flatMap aj.av),bX i5 (.cells 0 s.av)]∧env.has [(3,v),(5,.ptr i5 0 0),(6,.int .i64 (GL.getD j 0)),(10,.rd l.length (l.flatMap aj.av) fl),(11,.int .i64 l.length),(12,.int .i64 i),(16,.rd 4 (Ic.map (.int .i64)) true),(17,.int .i64 4),(18,.int .i64 j)]) ⟨v,by rw[List.take_zero,List.filterMap_nil,List.append_nil];exact hS1,hh_⟩ ?_
  clear hS1
  rintro j env h' hj ⟨v,hS,he⟩
  have h5:h'.get i5=some (.cells 0 s.av):=hS.get (i:=2) rfl
  have hrow:aC h' v 2 _ _:=hS.get (i:=1) rfl
  obtain⟨env,rfl⟩:=he.ex
  clear he
  by_cases hj2:j<4
  ·obtain⟨p,hp,hx,hf1,hf2,hb1,hb2,hb3⟩:=Ib hj2
   have hlen:((l.take i).flatMap cZ++(jq.take j).filterMap (sH s)).length≤4194308:=by
    have q1:=wc (l.take i)
    have q2:(l.take i).length≤l.length:=by rw[List.length_take];omega
    have q3:=List.length_filterMap_le (sH s) (jq.take j)
    have q4:(jq.take j).length≤4:=by rw[List.length_take];simp[jq];omega
    rw[List.length_append]
    omega
   rw[hf1]
   repeat' first|apply ad|(apply gw;first|(apply gq0;first|refine am rfl ?_|refine ar rv_ ?_)|(apply gq2;first|refine aB rfl b_ pv_ ?_|refine aq rfl hg_ (by simp) b_ pv_ ?_)|(apply gq3;first|refine aQ rfl rfl rfl (by omega) (by omega) ?_|(refine aA rfl rfl rfl ?_ ?_<;>(intro hc;try (exfalso;omega)))|(refine iS rfl rfl rfl ?_ ?_<;>(intro hc;try (exfalso;omega))))|refine au rfl (Nat.zero_add _) ?_|refine ai rfl rfl hx (by omega) rfl ?_|(refine cd ?_;intro id hid;try simp only[ac.set_none]at hid)|refine cE (cs':=[AV.int _ _,AV.int _ _]) rfl rfl rfl rfl b_ rfl ?_|(refine aW (m:=1) rv_ ir_ rfl rfl (by omega) ?_;intro va hpa hra hka hria)|refine cL (cs:=[AV.int _ _,AV.int _ _]) rfl ?_|refine bk (cs:=[AV.int _ _,AV.int _ _]) rfl rfl ?_|refine yE rfl rfl rfl ?_|refine FD rfl rfl rfl ?_)|(apply gx;first|apply af|refine ae rfl ?_|apply az|apply al|refine ak rfl ?_|refine ah rfl ?_)|apply aa|apply aD
   ·have hq:sH s p=some ⟨max s.lo p.1,min s.hi p.2⟩:=if_pos hc
    have e1:(jq.take (j+1)).filterMap (sH s)=(jq.take j).filterMap (sH s)++[⟨max s.lo p.1,min s.hi p.2⟩]:=by
     rw[aS hp,List.filterMap_append]
     simp[List.filterMap_cons,hq]
    have hS1:=hS.new (o := .cells 0 [.int .i64 (max s.lo p.1),.int .i64 (min s.hi p.2)]) hid
    have hS2:=hS1.upd 1 (cB va 2 _ _) rfl hra hka hria
    have hS3:=hS2.drop 3 (h':=hpa) rfl (fun _ _=>rfl)
    refine aO hj2 ⟨va,?_,?_⟩
    ·rw[e1,← List.append_assoc,List.length_append (bs:=[_]),List.flatMap_append]
     exact hS3
    ·rw[hf2]
     exact hh_
   ·have hq:sH s p=none:=if_neg hc
    have e1:(jq.take (j+1)).filterMap (sH s)=(jq.take j).filterMap (sH s):=by
     rw[aS hp,List.filterMap_append]
     simp[List.filterMap_cons,hq]
    have hS1:=hS.new (o := .cells 0 [.int .i64 (max s.lo p.1),.int .i64 (min s.hi p.2)]) hid
    have hS3:=hS1.drop 3 (h':=h'.set id (.cells 0 [.int .i64 (max s.lo p.1),.int .i64 (min s.hi p.2)])) rfl (fun _ _=>rfl)
    refine aO hj2 ⟨v,?_,?_⟩
    ·rw[e1]
     exact hS3
    ·rw[hf2]
     exact hh_
  ·have hS3:=hS.drop 2 (h':=h') rfl (fun _ _=>rfl)
   have e4:jq.take j=jq:=List.take_of_length_le (by simp[jq];omega)
   have e5:(l.take (i+1)).flatMap cZ=(l.take i).flatMap cZ++(jq.take j).filterMap (sH s):=by
    rw[aS hs,List.flatMap_append,e4]
    simp[CT]
   repeat' first|apply ad|(apply gw;first|refine am rfl ?_|(apply gq3;first|refine aQ rfl rfl rfl (by omega) (by omega) ?_|(refine aA rfl rfl rfl ?_ ?_<;>(intro hc;try (exfalso;omega)))))|(apply gx;first|apply af|refine ae rfl ?_|apply aJ|refine ah rfl ?_)|apply aa|apply aK|apply aD|apply aL|apply aR
   refine aO hi2 ⟨v,?_,hh_⟩
   rw[e5]
   exact hS3
 ·repeat' first|apply ad|(apply gw;first|refine ar rv_ ?_|(refine aA rfl rfl rfl ?_ ?_<;>(intro hc;try (exfalso;omega))))|(apply gx;first|apply af|refine ae rfl ?_|apply aM|apply aJ|refine ah rfl ?_)|apply aa|apply aK|apply aL|apply aR
  refine fe rfl hrow (fun _=>?_)
  rw[List.take_of_length_le (by omega)]
end
end Go.Proofs.YtlnobeojgifojaaGreatDoor
