/- The statements' helpers: place, Make, norm, same, scalars, within, each. The statements' machines: Machine. The statements: SimStates, SimFree, SimGoes, SimBad, SimFronts. -/
import Derived.Test.YtlnobeojgifojaaGreatDoorD6
import Derived.Test.YtlnobeojgifojaaGreatDoorB2
import Derived.Test.YtlnobeojgifojaaGreatDoorD3
set_option linter.unusedVariables false
set_option linter.unusedSimpArgs false
namespace Go.Proofs.YtlnobeojgifojaaGreatDoor
section
open Go
set_option maxHeartbeats 4000000
theorem nD {Φ:Lib}{m f:Nat}{args:List AV}{P:AV→Prop}{h:ac}{Q:AV→ac→Prop}(hp:a8 Φ f args ac.empty (fun v _=>P v))(ha:AV.frozenL args=true)(hv:∀ v,P v→v.frozen=true)(k:∀ v,P v→Q v h):bH (a8 Φ) m f args h Q :=
 .inr (.inr (.inl ⟨ha,a8.mono Φ _ _ _ _ _ (fun v _ e=>⟨hv v e,k v e⟩) hp⟩))
theorem BW {F:bT}{r:List bF}{Q:Env→ac→Prop}{env:Env}{h:ac}{d:Nat}{x y:bt}{k k':IntKind}{a b:Int}(hx:ev env x = .int k a)(hy:ev env y = .int k' b)(hk:k=k')(h1:0<b)(k1:aw F r Q (env.put d (.int k (a.tmod b))) h):aw F (⟨some d,.bin .rem x y,none⟩::r) Q env h:=by
 subst hk
 have hb:b≠0:=by omega
 simp[hx,hy,hb,k1]
theorem FY {F:bT}{r:List bF}{Q:Env→ac→Prop}{env:Env}{h:ac}{d:Nat}{x y:bt}{a b:Int}(hx:ev env x = .int .u16 a)(hy:ev env y = .int .u16 b)(h0:0≤a)(h1:0<b)(h2:a≤65535)(k1:aw F r Q (env.put d (.int .u16 (a / b))) h):aw F (⟨some d,.bin .quo x y,none⟩::r) Q env h:=by
 have hb:b≠0:=by omega
 have e:a.tdiv b=a / b:=Int.tdiv_eq_ediv_of_nonneg h0
 have l1:0≤a / b:=Int.ediv_nonneg h0 (by omega)
 have l2:a / b≤a:=Int.ediv_le_self b h0
 have:IntKind.u16.wrap (a.tdiv b)=a / b:=by rw[e];simp[IntKind.wrap,IntKind.bits,IntKind.signed];omega
 simp[hx,hy,hb,this,k1]
attribute [local irreducible] aw bg bm dg bz cw dO bH wop cz a8
theorem Gw {Φ:Lib}(L:l9 Φ)(c:Int)(hc:0≤c∧c≤65535):a8 Φ 34 [.int .u16 c] ac.empty (fun v _=>∃ x:Int,v = .int .i64 x∧0≤x∧x≤2000000):=by
 have h8:0≤c / 8:=by omega
 refine aY (fun _=>false) rfl L.f34 ?_
 repeat' first|apply ad|(apply gw;first|(apply gq0;first|refine am rfl ?_|refine bj rfl ?_)|(apply gq3;first|refine aQ rfl rfl rfl (by omega) (by omega) ?_|(refine cq rfl rfl rfl ?_ ?_<;>(intro hc;try (exfalso;omega)))|refine tv rfl rfl rfl (by omega) (by omega) ?_|refine FY rfl rfl (by omega) (by omega) (by omega) ?_)|refine gL rfl (by omega) (by omega) ?_)|(apply gx;first|apply af|refine ae rfl ?_|apply ay|apply al|apply aJ|refine ak rfl ?_|refine ah rfl ?_)|apply aa|apply cu|apply aF|apply fT|refine aH (v:=AV.int _ _) rfl ?_
 all_goals exact⟨_,rfl,by omega,by omega⟩
@[reducible] def wo (l:List Int)(fl:Bool):AV := .rd l.length (l.map (.int .u16)) fl
theorem GQ {Φ:Lib}(L:l9 Φ)(l:List Int)(fl:Bool)(hl:l.length≤1048576)(hw:∀ c∈l,0≤c∧c≤65535) :
  a8 Φ 22 [wo l fl] ac.empty (fun v _=>∃ s:List ai,v = .rd s.length (s.flatMap ai.av) false∧s.length≤min 64 ((l.length+1) / 2)∧∀ x∈s,0≤x.hi):=by
 refine aY (fun _=>false) rfl L.f22 ?_
 repeat' first|apply ad|(apply gq0;first|refine am rfl ?_|refine aG rfl ?_)|(apply gx;first|apply af|refine ae rfl ?_|apply al)|apply aa
 refine iq (fun m env h'=>∃ (i:Nat) (v:AV) (s:List ai),m=l.length+1-i∧i≤l.length+1∧i≤61∧2*s.length≤i∧(∀ x∈s,0≤x.hi)∧aC h' v 2 s.length (s.flatMap ai.av)∧env.has [(0,wo l fl),(3,v),(4,.int .i64 i)]) _ ⟨0,_,[],rfl,by omega,by omega,by simp,by simp,aC.nil _ _,hh_⟩ ?_
 rintro m env h' ⟨i,v,s,rfl,hi,hi60,hsl,hs,hrow,he⟩
 obtain⟨env,rfl⟩:=he.ex
 clear he
 by_cases hi2:i+1<l.length
 ·obtain⟨a,ha⟩:=aK (show i<l.length by omega)
  obtain⟨b,hb⟩:=aK hi2
  have hwa:=hw a (List.mem_of_getElem? ha)
  have hwb:=hw b (List.mem_of_getElem? hb)
  repeat' first|apply ad|(apply gw;first|(apply gq0;first|refine am rfl ?_|refine bj rfl ?_|refine aG rfl ?_|refine aq rv_ ?_)|refine bP rfl ?_|refine aB rfl b_ pv_ ?_|(apply gq3;first|refine aQ rfl rfl rfl (by omega) (by omega) ?_|(refine aA rfl rfl rfl ?_ ?_<;>(intro hc;try (exfalso;omega))))|refine aj rfl rfl ha (by omega) rfl ?_|refine az rfl ?_|refine aZ rfl rfl ?_|refine aI rfl nt_ ?_)|(apply gx;first|apply af|refine ae rfl ?_|apply ay|apply al|apply aJ|apply aL|refine ak rfl ?_|refine ah rfl ?_)|apply aa|apply aM|apply aN|apply aR
  ·refine nD (Gw L a hwa) (by simp[AV.frozenL,AV.frozen]) (by rintro _ ⟨x,rfl,_⟩;rfl) ?_
   rintro _ ⟨x,rfl,hx0,hx1⟩
   repeat' first|apply ad|(apply gw;first|(apply gq0;first|refine am rfl ?_|refine aG rfl ?_|refine aq rv_ ?_)|refine aB rfl b_ pv_ ?_|(apply gq3;first|refine aQ rfl rfl rfl (by omega) (by omega) ?_|refine tv rfl rfl rfl (by omega) (by omega) ?_)|refine aj rfl rfl hb (by omega) rfl ?_|(refine aX (m:=1) rv_ ir_ rfl rfl (by omega) ?_;intro va hpa hra hka hria)|refine cJ (cs:=[AV.int _ _,AV.int _ _]) rfl ?_|refine bk (cs:=[AV.int _ _,AV.int _ _]) rfl rfl ?_|refine gL rfl (by omega) (by omega) ?_)|refine ae rfl ?_|apply aa|apply aF
   refine fA (l.length+1-(i+2)) (by omega) ⟨i+2,va,s++[⟨x,x+b%40⟩],rfl,by omega,by omega,by simp;omega,fun y hy=>?_,by simpa[ai.av] using hra,hh_⟩
   rcases List.mem_append.1 hy with hy|hy
   ·exact hs y hy
   ·simp only[List.mem_singleton]at hy
    subst hy
    show 0≤x+b%40
    omega
  ·exact fj rfl hrow (fun _=>⟨s,rfl,by omega,hs⟩)
 ·repeat' first|apply ad|(apply gw;first|(apply gq0;first|refine am rfl ?_|refine bj rfl ?_|refine aG rfl ?_|refine aq rv_ ?_)|refine cr rfl ?_|(apply gq3;first|refine aQ rfl rfl rfl (by omega) (by omega) ?_|(refine aA rfl rfl rfl ?_ ?_<;>(intro hc;try (exfalso;omega))))|refine az rfl ?_|refine bc rfl rfl ?_)|(apply gx;first|apply af|refine ae rfl ?_|apply aJ|apply aL|refine ah rfl ?_)|apply aa|apply aM|apply aN|apply aR
  exact fj rfl hrow (fun _=>⟨s,rfl,by omega,hs⟩)
@[simp] theorem oy (x y:List AV):AV.frozenL (x++y)=(AV.frozenL x&&AV.frozenL y):=by
 induction x with
 | nil=>rfl
 | cons a x ih=>simp[AV.frozenL,ih,Bool.and_assoc]
end
section
open Go
set_option maxHeartbeats 4000000
attribute [local irreducible] aw bg bm dg bz cw dO bH wop cz a8
structure Arc where
 fr:Int
 to:Int
 set:Rw Int
 free:Bool
@[reducible] def Arc.av (a:Arc):List AV:=[.int .u8 a.fr,.int .u8 a.to,wo a.set.l a.set.fl,.bool a.free]
@[simp] theorem Arc.av_length (a:Arc):a.av.length=4:=rfl
@[simp] theorem Kf (l:List Int)(fl:Bool):(wo l fl).frozen=true:=by
 simp only[wo,AV.frozen]
 exact eF (fun _=>rfl) l
@[simp] theorem KC (l:List Int):AV.frozenL (l.map (.int .u16))=true:=eF (fun _=>rfl) l
@[simp] theorem KR (l:List Int):AV.frozenL (l.map (.int .i8))=true:=eF (fun _=>rfl) l
@[simp] theorem IF (a:Arc):AV.frozenL a.av=true:=by simp[Arc.av,AV.frozenL,AV.frozen]
@[simp] theorem KG (l:List Arc):AV.frozenL (l.flatMap Arc.av)=true:=j9 IF l
end
section
open Go
set_option maxHeartbeats 4000000
attribute [local irreducible] aw bg bm dg bz cw dO bH wop cz a8
@[reducible] def ints (l:List Int)(f:Bool):AV := .rd l.length (l.map (.int .i64)) f
end
end Go.Proofs.YtlnobeojgifojaaGreatDoor
