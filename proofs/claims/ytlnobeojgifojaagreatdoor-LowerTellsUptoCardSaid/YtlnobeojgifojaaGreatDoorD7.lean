/- The statements' helpers: place, Make, norm, same, scalars, within, each. -/
import Derived.Test.YtlnobeojgifojaaGreatDoorD6
import Derived.Test.YtlnobeojgifojaaGreatDoorB2
import Derived.Test.YtlnobeojgifojaaGreatDoorD3
set_option linter.unusedVariables false
set_option linter.unusedSimpArgs false
namespace Go.Proofs.YtlnobeojgifojaaGreatDoor
section
open Go
set_option maxHeartbeats 4000000
theorem lK {Φ:Lib}{m f:Nat}{args:List AV}{P:AV→Prop}{h:ad}{Q:AV→ad→Prop}(hp:bc Φ f args ad.empty (fun v _=>P v))(ha:AV.frozenL args=true)(hv:∀ v,P v→v.frozen=true)(k:∀ v,P v→Q v h):bJ (bc Φ) m f args h Q :=
 .inr (.inr (.inl ⟨ha,bc.mono Φ _ _ _ _ _ (fun v _ e=>⟨hv v e,k v e⟩) hp⟩))
theorem Ce {F:bZ}{r:List bK}{Q:Env→ad→Prop}{env:Env}{h:ad}{d:Nat}{x y:bA}{k k':IntKind}{a b:Int}(hx:ev env x = .int k a)(hy:ev env y = .int k' b)(hk:k=k')(h1:0<b)(k1:az F r Q (env.put d (.int k (a.tmod b))) h):az F (⟨some d,.bin .rem x y,none⟩::r) Q env h:=by
 subst hk
 have hb:b≠0:=by omega
 simp[hx,hy,hb,k1]
theorem F8 {F:bZ}{r:List bK}{Q:Env→ad→Prop}{env:Env}{h:ad}{d:Nat}{x y:bA}{a b:Int}(hx:ev env x = .int .u16 a)(hy:ev env y = .int .u16 b)(h0:0≤a)(h1:0<b)(h2:a≤65535)(k1:az F r Q (env.put d (.int .u16 (a / b))) h):az F (⟨some d,.bin .quo x y,none⟩::r) Q env h:=by
 have hb:b≠0:=by omega
 have e:a.tdiv b=a / b:=Int.tdiv_eq_ediv_of_nonneg h0
 have l1:0≤a / b:=Int.ediv_nonneg h0 Ll
 have l2:a / b≤a:=Int.ediv_le_self b h0
 have:IntKind.u16.wrap (a.tdiv b)=a / b:=by rw[e];simp[IntKind.wrap,IntKind.bits,IntKind.signed];omega
 simp[hx,hy,hb,this,k1]
attribute [local irreducible] az bf bm de bz cw dH bJ wop cz bc
theorem zz {Φ:Lib}(L:jM Φ)(c:Int)(hc:0≤c∧c≤65535):bc Φ 34 [.int .u16 c] ad.empty (fun v _=>∃ x:Int,v = .int .i64 x∧0≤x∧x≤2000000):=by
 have h8:0≤c / 8:=by omega
 refine ba (fun _=>false) rfl L.f34 ?_
 repeat' first|apply ac|(apply gw;first|(apply gq0;first|refine aq rfl ?_|refine bl rfl ?_)|(apply gq3;first|refine aT rfl rfl rfl Ll Ll ?_|(refine dd rfl rfl rfl ?_ ?_<;>(intro hc;try omega))|refine ny rfl rfl rfl Ll Ll ?_|refine F8 rfl rfl Ll Ll Ll ?_)|refine nA rfl Ll Ll ?_)|(apply gx;first|apply af|refine ae rfl ?_|apply ay|apply al|apply aM|refine ak rfl ?_|refine ai rfl ?_)|apply aa|apply cp|apply aI|apply gH|refine aJ (v:=AV.int _ _) rfl ?_
 all_goals exact⟨_,rfl,by omega,by omega⟩
@[reducible] def sh (l:List Int)(fl:Bool):AV := .rd l.length (l.map (.int .u16)) fl
theorem G2 {Φ:Lib}(L:jM Φ)(l:List Int)(fl:Bool)(hl:l.length≤1048576)(hw:∀ c∈l,0≤c∧c≤65535) :
  bc Φ 22 [sh l fl] ad.empty (fun v _=>∃ s:List aj,v = .rd s.length (s.flatMap aj.av) false∧s.length≤min 64 ((l.length+1) / 2)∧∀ x∈s,0≤x.hi):=by
 refine ba (fun _=>false) rfl L.f22 ?_
 repeat' first|apply ac|(apply gq0;first|refine aq rfl ?_|refine aG rfl ?_)|(apply gx;first|apply af|refine ae rfl ?_|apply al)|apply aa
 refine gL (fun m env h'=>∃ (i:Nat) (v:AV) (s:List aj),m=l.length+1-i∧i≤l.length+1∧i≤61∧2*s.length≤i∧(∀ x∈s,0≤x.hi)∧aD h' v 2 s.length (s.flatMap aj.av)∧env.has [(0,sh l fl),(3,v),(4,.int .i64 i)]) _ ⟨0,_,[],rfl,by omega,by omega,by simp,by simp,aD.nil _ _,hh_⟩ ?_
 rintro m env h' ⟨i,v,s,rfl,hi,hi60,hsl,hs,hrow,he⟩
 obtain⟨env,rfl⟩:=he.ex
 clear he
 by_cases hi2:i+1<l.length
 ·obtain⟨a,ha⟩:=aK (show i<l.length by omega)
  obtain⟨b,hb⟩:=aK hi2
  have hwa:=hw a (List.mem_of_getElem? ha)
  have hwb:=hw b (List.mem_of_getElem? hb)
  repeat' first|apply ac|(apply gw;first|(apply gq0;first|refine aq rfl ?_|refine bl rfl ?_|refine aG rfl ?_|refine au rv_ ?_)|refine cj rfl ?_|refine aB rfl b_ pv_ ?_|(apply gq3;first|refine aT rfl rfl rfl Ll Ll ?_|(refine aA rfl rfl rfl ?_ ?_<;>(intro hc;try omega)))|refine ah rfl rfl ha Ll rfl ?_|refine aw rfl ?_|refine bi rfl rfl ?_|refine aH rfl nt_ ?_)|(apply gx;first|apply af|refine ae rfl ?_|apply ay|apply al|apply aM|apply aN|refine ak rfl ?_|refine ai rfl ?_)|apply aa|apply aO|apply aP|apply aX
  ·refine lK (zz L a hwa) (by simp[AV.frozenL,AV.frozen]) (by rintro _ ⟨x,rfl,_⟩;rfl) ?_
   rintro _ ⟨x,rfl,hx0,hx1⟩
   repeat' first|apply ac|(apply gw;first|(apply gq0;first|refine aq rfl ?_|refine aG rfl ?_|refine au rv_ ?_)|refine aB rfl b_ pv_ ?_|(apply gq3;first|refine aT rfl rfl rfl Ll Ll ?_|refine ny rfl rfl rfl Ll Ll ?_)|refine ah rfl rfl hb Ll rfl ?_|(refine aY (m:=1) rv_ ir_ rfl rfl Ll ?_;intro va hpa hra hka hria)|refine cO (cs:=[AV.int _ _,AV.int _ _]) rfl ?_|refine bj (cs:=[AV.int _ _,AV.int _ _]) rfl rfl ?_|refine nA rfl Ll Ll ?_)|refine ae rfl ?_|apply aa|apply aI
   refine fp (l.length+1-(i+2)) Ll ⟨i+2,va,s++[⟨x,x+b%40⟩],rfl,by omega,by omega,by simp;omega,fun y hy=>?_,by simpa[aj.av] using hra,hh_⟩
   rcases List.mem_append.1 hy with hy|hy
   ·exact hs y hy
   ·simp only[List.mem_singleton]at hy
    subst hy
    show 0≤x+b%40
    omega
  ·exact fq rfl hrow (fun _=>⟨s,rfl,by omega,hs⟩)
 ·repeat' first|apply ac|(apply gw;first|(apply gq0;first|refine aq rfl ?_|refine bl rfl ?_|refine aG rfl ?_|refine au rv_ ?_)|refine cf rfl ?_|(apply gq3;first|refine aT rfl rfl rfl Ll Ll ?_|(refine aA rfl rfl rfl ?_ ?_<;>(intro hc;try omega)))|refine aw rfl ?_|refine bb rfl rfl ?_)|(apply gx;first|apply af|refine ae rfl ?_|apply aM|apply aN|refine ai rfl ?_)|apply aa|apply aO|apply aP|apply aX
  exact fq rfl hrow (fun _=>⟨s,rfl,by omega,hs⟩)
@[simp] theorem oE (x y:List AV):AV.frozenL (x++y)=(AV.frozenL x&&AV.frozenL y):=by
 induction x with
 | nil=>rfl
 | cons a x ih=>simp[AV.frozenL,ih,Bool.and_assoc]
end
section
open Go
set_option maxHeartbeats 4000000
attribute [local irreducible] az bf bm de bz cw dH bJ wop cz bc
structure Arc where
 fr:Int
 to:Int
 set:Rw Int
 free:Bool
@[reducible] def Arc.av (a:Arc):List AV:=[.int .u8 a.fr,.int .u8 a.to,sh a.set.l a.set.fl,.bool a.free]
@[simp] theorem Arc.av_length (a:Arc):a.av.length=4:=rfl
@[simp] theorem Ks (l:List Int)(fl:Bool):(sh l fl).frozen=true:=by
 simp only[sh,AV.frozen]
 exact eI (fun _=>rfl) l
@[simp] theorem KP (l:List Int):AV.frozenL (l.map (.int .u16))=true:=eI (fun _=>rfl) l
@[simp] theorem K4 (l:List Int):AV.frozenL (l.map (.int .i8))=true:=eI (fun _=>rfl) l
@[simp] theorem IV (a:Arc):AV.frozenL a.av=true:=by simp[Arc.av,AV.frozenL,AV.frozen]
@[simp] theorem KT (l:List Arc):AV.frozenL (l.flatMap Arc.av)=true:=kg IV l
end
section
open Go
set_option maxHeartbeats 4000000
attribute [local irreducible] az bf bm de bz cw dH bJ wop cz bc
@[reducible] def ints (l:List Int)(f:Bool):AV := .rd l.length (l.map (.int .i64)) f
end
end Go.Proofs.YtlnobeojgifojaaGreatDoor
