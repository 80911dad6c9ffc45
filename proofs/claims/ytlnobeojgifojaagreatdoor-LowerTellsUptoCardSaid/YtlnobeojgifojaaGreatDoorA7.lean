/- From what a row reads of its arguments to the abstract machine's values. -/
import Derived.Test.YtlnobeojgifojaaGreatDoorA6
import GoSem.ClaimChange
import Derived.ChangeStays
import Derived.ChangeOld
import Derived.ChangeSame
import Derived.DataReads
import Derived.RowKit
import Derived.OpenShut
import Derived.Eval
import Derived.Test.YtlnobeojgifojaaGreatDoorA1
set_option linter.unusedVariables false
set_option linter.unusedSimpArgs false
namespace Go.Proofs.YtlnobeojgifojaaGreatDoor
section
open Go
inductive Ty where
 | bool
 | int (k:IntKind)
 | str
 | slice (n:Nat) (e:Ty)
 | struct (l:List Ty)
mutual
inductive TV:Ty→List AV→Prop
 | bool (b:Bool):TV .bool [.bool b]
 | int {k:IntKind} {n:Int}:k.min≤n→n≤k.max→TV (.int k) [.int k n]
 | str (s:List UInt8):TV .str [.str s]
 | slice {n:Nat} {e:Ty} {es:List (List AV)}:TVall n e es→TV (.slice n e) [.rd es.length es.flatten false]
 | struct {l:List Ty} {cs:List AV}:TVs l cs→TV (.struct l) cs
inductive TVall:Nat→Ty→List (List AV)→Prop
 | nil {n:Nat} {e:Ty}:TVall n e []
 | cons {n:Nat} {e:Ty} {c:List AV} {es:List (List AV)}:TV e c→c.length=n→TVall n e es→TVall n e (c::es)
inductive TVs:List Ty→List AV→Prop
 | nil:TVs [] []
 | cons {t:Ty} {l:List Ty} {c cs:List AV}:TV t c→TVs l cs→TVs (t::l) (c++cs)
end
mutual
def AV.bulk:AV→Nat
 | .str s=>s.length+1
 | .rd _ cs _=>AV.bulkL cs+1
 | _=>1
def AV.bulkL:List AV→Nat
 | []=>0
 | v::vs=>v.bulk+AV.bulkL vs
end
theorem AV.bulkL_append:∀ (a b:List AV),AV.bulkL (a++b)=AV.bulkL a+AV.bulkL b
 | [],b=>by simp[AV.bulkL]
 | v::a,b=>by simp only[List.cons_append,AV.bulkL,AV.bulkL_append a b];omega
mutual
def jg {H:Type}:DataW H→Nat
 | .lit (.string bytes)=>bytes.length+1
 | .lit _=>1
 | .nil=>1
 | .ptr d=>jg d+1
 | .slice elems spare=>dBulkAll elems+dBulkAll spare+1
 | .agg parts=>dBulkAll parts+1
 | .iface _ d=>jg d+1
 | .map entries=>dBulkEntries entries+1
 | .held _=>1
def dBulkAll {H:Type}:List (DataW H)→Nat
 | []=>0
 | d::r=>jg d+dBulkAll r
def dBulkEntries {H:Type}:List (Lit×DataW H)→Nat
 | []=>0
 | x::r=>dBulkEntry x+dBulkEntries r
def dBulkEntry {H:Type}:Lit×DataW H→Nat
 | (.string bytes,d)=>bytes.length+jg d+1
 | (_,d)=>jg d+1
end
def oF (P:Program)(ty:TypeId→Option Ty):Nat→List Field→Option (List Ty)
 | _,[]=>some []
 | off,f::fs=>if f.offset=off then(ty f.type).bind fun T=>(oF P ty (off+P.cellsOf f.type) fs).map (T::·) else none
def ve (P:Program):Nat→TypeId→Option Ty
 | 0,_=>none
 | n+1,t =>
  match P.underlying t with
  | some .bool=>some .bool
  | some (.int k)=>some (.int k)
  | some .string=>some .str
  | some (.slice e)=>if 0<P.cellsOf e then(ve P n e).map (.slice (P.cellsOf e)) else none
  | some (.struct fs)=>if P.cellsOf t=(fs.toList.map fun f=>P.cellsOf f.type).sum then(oF P (ve P n) 0 fs.toList).map .struct else none
  | _=>none
section
variable {φ:Phi} {P:Program} {X:Ctx} {H:Type} {enc:TypeId×Value→H} {base:Nat} {sp:Nat→Bool} {held:Bool}
def yH (φ:Phi)(X:Ctx)(T:Ty)(cs:List Value)(k:Nat)(b:Nat):Prop:=∃ avs,TV T avs∧VCs φ X avs cs∧cs.length=k∧AV.bulkL avs≤b
theorem wW {read:TypeId→List Value→Option (DataW H×List MemPlace)}{ty:TypeId→Option Ty}(hr:∀ t cs x T,ty t=some T→read t cs=some x→cs.length=P.cellsOf t→yH φ X T cs (P.cellsOf t) (jg x.1))(cs:List Value) :
  ∀ (fs:List Field) (off:Nat) (Ts:List Ty) (xs:List (DataW H×List MemPlace)),oF P ty off fs=some Ts→fs.mapM (fun f=>read f.type ((cs.drop f.offset).take (P.cellsOf f.type)))=some xs→off+(fs.map fun f=>P.cellsOf f.type).sum=cs.length →
  ∃ avs,TVs Ts avs∧VCs φ X avs (cs.drop off)∧AV.bulkL avs≤dBulkAll (xs.map (·.1))
 | [],off,Ts,xs,h1,h2,h3=>by
  simp only[oF,Option.some.injEq]at h1
  simp at h2 h3
  subst h1 h2 h3
  exact⟨[],.nil,by simpa using VCs.nil,Nat.le_refl _⟩
 | f::fs,off,Ts,xs,h1,h2,h3=>by
  simp only[oF]at h1
  split at h1
  ·rename_i hoff
   subst hoff
   simp only[Option.bind_eq_some_iff,Option.map_eq_some_iff]at h1
   obtain⟨T,hT,Ts',hTs,rfl⟩:=h1
   simp only[List.mapM_cons,Option.bind_eq_bind,Option.pure_def,Option.bind_eq_some_iff,Option.some.injEq]at h2
   obtain⟨x,hx,xs',hxs,rfl⟩:=h2
   simp only[List.map_cons,List.sum_cons]at h3
   obtain⟨a,a1,a2,a3,a4⟩:=hr _ _ _ _ hT hx (by rw[List.length_take,List.length_drop];omega)
   obtain⟨b,b1,b2,b3⟩:=wW hr cs fs (f.offset+P.cellsOf f.type) Ts' xs' hTs hxs Ll
   refine⟨a++b,.cons a1 b1,?_,?_⟩
   ·have:cs.drop f.offset=(cs.drop f.offset).take (P.cellsOf f.type)++cs.drop (f.offset+P.cellsOf f.type):=by
     rw[← List.drop_drop,List.take_append_drop]
    rw[this]
    exact a2.append b2
   ·rw[AV.bulkL_append]
    simp only[List.map_cons,dBulkAll]
    omega
  ·cases h1
theorem Ad {read:TypeId→List Value→Option (DataW H×List MemPlace)}{e:TypeId}{T:Ty}(hr:∀ cs x,read e cs=some x→cs.length=P.cellsOf e→yH φ X T cs (P.cellsOf e) (jg x.1)){a:Addr}(h0:0<P.cellsOf e) :
  ∀ (len from':Nat) (xs:List (DataW H×List MemPlace)),(List.range' from' len).mapM (fun i=>(X.w.cells? base (a.add (i*P.cellsOf e)) (P.cellsOf e)).bind (read e))=some xs →
  ∃ es:List (List AV),∃ vs:List Value,es.length=len∧TVall (P.cellsOf e) T es∧VCs φ X es.flatten vs∧vs.length=len*P.cellsOf e∧(len≠0→a.spot=none∨from'≠0)∧(∀ j v,vs[j]?=some v→X.w.cell? ⟨a.block,a.off+from'*P.cellsOf e+j,none⟩=some v)∧AV.bulkL es.flatten≤dBulkAll (xs.map (·.1))∧xs.length=len
 | 0,from',xs,h=>by
  simp at h
  subst h
  exact⟨[],[],rfl,.nil,.nil,by simp,fun h=>absurd rfl h,fun j v h=>by simp at h,Nat.le_refl _,rfl⟩
 | len+1,from',xs,h=>by
  rw[List.range'_succ]at h
  simp only[List.mapM_cons,Option.bind_eq_bind,Option.pure_def,Option.bind_eq_some_iff,Option.some.injEq]at h
  obtain⟨x,⟨cs,hcs,hx⟩,xs',hxs,rfl⟩:=h
  obtain⟨q1,q2,q3⟩:=World.cells?_some hcs
  obtain⟨b,b1,b2,b3,b4⟩:=hr cs x hx q2
  obtain⟨es,vs,e1,e2,e3,e4,e5,e6,e7,e8⟩:=Ad hr h0 len (from'+1) xs' hxs
  have hadd:∀ i,i<P.cellsOf e→X.w.cell? ⟨a.block,a.off+from'*P.cellsOf e+i,none⟩=cs[i]?∧(from'=0→a.spot=none):=fun i hi=>by
   have:=q3 i hi
   obtain⟨v,hv⟩:∃ v,cs[i]?=some v:=⟨_,List.getElem?_eq_getElem Ll⟩
   rw[hv]at this
   have hs:=World.cell?_spot this
   rw[hv]
   by_cases hf:from'=0
   ·subst hf
    simp only[Nat.zero_mul]at this hs ⊢
    have ha:a.add 0=a:=by simp[Go.Addr.add]
    rw[ha]at this hs
    have hsp:a.spot=none:=by
     by_cases hi0:i=0
     ·subst hi0;rw[ha]at hs;exact hs
     ·have:=q3 0 Ll
      simp only[Nat.zero_mul,ha]at this
      obtain⟨v0,hv0⟩:∃ v,cs[0]?=some v:=⟨_,List.getElem?_eq_getElem Ll⟩
      rw[hv0]at this
      exact World.cell?_spot this
    refine⟨?_,fun _=>hsp⟩
    rw[Addr.add_plain _ hsp]at this
    simpa using this
   ·refine⟨?_,fun h=>absurd h hf⟩
    have hne:from'*P.cellsOf e≠0:=Nat.mul_ne_zero hf Ll
    have ha:a.add (from'*P.cellsOf e)=⟨a.block,a.off+from'*P.cellsOf e,none⟩:=by simp[Go.Addr.add,hne]
    rw[ha,Addr.add_plain _ rfl]at this
    exact this
  refine⟨b::es,cs++vs,by simp[e1],.cons b1 (b2.length.trans b3) e2,?_,by rw[List.length_append,e4,q2,Nat.add_mul];omega,fun _=>?_,?_,?_,by simp[e8]⟩
  ·simpa using b2.append e3
  ·by_cases hf:from'=0
   ·exact .inl ((hadd 0 h0).2 hf)
   ·exact .inr hf
  ·intro j v hj
   by_cases hjl:j<cs.length
   ·rw[List.getElem?_append_left hjl]at hj
    rw[(hadd j Ll).1]
    exact hj
   ·rw[List.getElem?_append_right Ll]at hj
    have:=e6 _ _ hj
    rw[show a.off+(from'+1)*P.cellsOf e+(j-cs.length)=a.off+from'*P.cellsOf e+j by rw[Nat.add_mul];omega]at this
    exact this
  ·simp only[List.flatten_cons,AV.bulkL_append,List.map_cons,dBulkAll]
   omega
theorem Cd (hm:∀ B,¬ X.Mut B):∀ (n fuel:Nat) (t:TypeId) (cs:List Value) (x:DataW H×List MemPlace) (T:Ty),ve P n t=some T→DataW.trod enc P X.w base sp held fuel t cs=some x→cs.length=P.cellsOf t →
  yH φ X T cs (P.cellsOf t) (jg x.1):=by
 intro n
 induction n with
 | zero=>intro fuel t cs x T h;simp[ve]at h
 | succ n ih =>
  intro fuel t cs x T hT hx hlen
  cases fuel with
  | zero=>simp[DataW.trod]at hx
  | succ fuel =>
   unfold ve at hT
   split at hT
   ·rename_i hu
    injection hT with hT;subst hT
    unfold DataW.trod at hx
    rw[hu]at hx
    split at hx<;>simp_all
    subst hx
    exact⟨_,.bool _,.cons (.bool _) .nil,hlen,by simp[AV.bulkL,AV.bulk,jg]⟩
   ·rename_i k hu
    injection hT with hT;subst hT
    unfold DataW.trod at hx
    rw[hu]at hx
    split at hx<;>simp_all
    rename_i k' m' he
    obtain⟨⟨rfl,hw⟩,rfl⟩:=hx
    subst he
    simp only[Lit.wf,Bool.and_eq_true,decide_eq_true_eq]at hw
    exact⟨_,.int hw.1 hw.2,.cons (.int _ _) .nil,hlen,by simp[AV.bulkL,AV.bulk,jg]⟩
   ·rename_i hu
    injection hT with hT;subst hT
    unfold DataW.trod at hx
    rw[hu]at hx
    split at hx<;>simp_all
    rename_i s
    obtain⟨_,rfl⟩:=hx
    exact⟨_,.str s.data.toList,.cons (.str _) .nil,hlen,by simp[AV.bulkL,AV.bulk,jg]⟩
   ·rename_i e hu
    split at hT
    ·rename_i h0
     simp only[Option.map_eq_some_iff]at hT
     obtain⟨T',hT',rfl⟩:=hT
     unfold DataW.trod at hx
     rw[hu]at hx
     split at hx<;>try (first|(rename_i hh;cases hh;done)|(rename_i hh _;cases hh;done)|(rename_i hh _ _;cases hh;done))
     ·injection hx with hx;subst hx
      exact⟨[.rd 0 [] false],.slice (es:=[]) .nil,.cons (.rd (vs:=[]) (fun h=>by simp at h) .nil (Nat.le_refl _) (fun h=>by cases h)) .nil,hlen,by simp[AV.bulkL,AV.bulk,jg]⟩
     ·rename_i e' a len cap heq
      injection heq with heq
      injection heq with heq
      subst heq
      dsimp only at hx
      split at hx
      ·rename_i hcond
       simp only[Option.bind_eq_some_iff,Option.map_eq_some_iff]at hx
       obtain⟨elems,hel,rest,hrest,rfl⟩:=hx
       rw[List.range_eq_range']at hel
       obtain⟨es,vs,e1,e2,e3,e4,e5,e6,e7,e8⟩:=Ad (X:=X) (φ:=φ) (base:=base) (a:=a) (fun cs x hx hl=>ih fuel e cs x T' hT' hx hl) h0 len 0 elems hel
       refine⟨[.rd es.length es.flatten false],.slice e2,.cons ?_ .nil,hlen,?_⟩
       ·rw[e1]
        refine .rd (vs:=vs) (fun hne=>⟨a,rfl,?_⟩) e3 hcond.2.1 (fun h=>by cases h)
        have hlen0:len≠0:=by
         rintro rfl
         rcases hne with h|h
         ·exact h rfl
         ·simp at e4;exact h e4
        have hpos:0<vs.length:=by rw[e4];exact Nat.mul_pos Ll h0
        obtain⟨v0,hv0⟩:∃ v,vs[0]?=some v:=⟨_,List.getElem?_eq_getElem hpos⟩
        have hc:=e6 0 v0 hv0
        refine⟨(e5 hlen0).resolve_right Lm,?_,hm _,fun j v hj=>by simpa using e6 j v hj⟩
        unfold World.cell? at hc
        split at hc
        ·rename_i hb
         exact(Array.getElem?_eq_some_iff.1 hb).1
        ·cases hc
       ·simp only[AV.bulkL,AV.bulk,jg]
        omega
      ·cases hx
     ·cases hx
    ·cases hT
   ·rename_i fs hu
    split at hT
    ·rename_i hsum
     simp only[Option.map_eq_some_iff]at hT
     obtain⟨Ts,hTs,rfl⟩:=hT
     unfold DataW.trod at hx
     rw[hu]at hx
     split at hx<;>try (first|(rename_i hh;cases hh;done)|(rename_i hh _;cases hh;done)|(rename_i hh _ _;cases hh;done))
     ·rename_i cs _ _ fs' heq
      injection heq with heq
      injection heq with heq
      subst heq
      rw[if_pos hlen]at hx
      simp only[Option.map_eq_some_iff]at hx
      obtain⟨xs,hxs,rfl⟩:=hx
      obtain⟨avs,a1,a2,a3⟩:=wW (P:=P) (X:=X) (φ:=φ) (ty:=ve P n) (read:=DataW.trod enc P X.w base sp held fuel) (fun t cs x T hT hx hl=>ih fuel t cs x T hT hx hl) cs fs.toList 0 Ts xs hTs hxs (by rw[Nat.zero_add,hlen,hsum])
      refine⟨avs,.struct a1,by simpa using a2,hlen,?_⟩
      simp only[jg]
      omega
     ·exact((by assumption:∀ (fs_1:Array Field),some (TypeDesc.struct fs)=some (TypeDesc.struct fs_1)→False) fs rfl).elim
    ·cases hT
   ·cases hT
def AV.argBulk:AV→Nat
 | .agg cs=>AV.bulkL cs
 | v=>v.bulk
inductive uX:Ty→AV→Prop
 | struct {l:List Ty} {cs:List AV}:TVs l cs→uX (.struct l) (.agg cs)
 | cell {t:Ty} {v:AV}:TV t [v]→(∀ l,t ≠ .struct l)→uX t v
inductive xh:List Ty→List AV→Prop
 | nil:xh [] []
 | cons {t:Ty} {ts:List Ty} {a:AV} {as:List AV}:uX t a→xh ts as→xh (t::ts) (a::as)
def AV.argsBulk:List AV→Nat
 | []=>0
 | a::as=>a.argBulk+AV.argsBulk as
def Ty.fits (P:Program)(t:TypeId):Ty→Bool
 | .struct _=>true
 | _=>P.cellsOf t == 1
def wd (P:Program):List TypeId→Option (List Ty)
 | []=>some []
 | t::ts=>(ve P 20 t).bind fun T=>if T.fits P t=true then(wd P ts).map (T::·) else none
theorem TV.one {T:Ty}{cs:List AV}(h:TV T cs)(hT:∀ l,T ≠ .struct l):∃ v,cs=[v]:=by
 cases h with
 | struct _=>exact absurd rfl (hT _)
 | _=>exact⟨_,rfl⟩
theorem J5 (hm:∀ B,¬ X.Mut B){t:TypeId}{T:Ty}{v:Value}{d:DataW H}{ps:List MemPlace}(hT:ve P 20 t=some T)(h1:T.fits P t=true){r:Reach}{b0:Nat}(hval:Value.okWide P X.w r b0 t v)(hd:DataW.Trod enc P X.w base sp held t v d ps):∃ a,uX T a∧VR φ X a v∧a.argBulk≤jg d:=by
 obtain⟨fuel,hd⟩:=hd
 by_cases hs:∃ l,T = .struct l
 ·obtain⟨l,rfl⟩:=hs
  have hu:∃ fs,P.underlying t=some (.struct fs):=by
   unfold ve at hT
   split at hT<;>try (cases hT;done)
   ·simp only[Option.map_eq_some_iff]at hT
    split at hT
    ·simp at hT
    ·cases hT
   ·rename_i fs hu
    exact⟨fs,hu⟩
  obtain⟨fs,hu⟩:=hu
  simp only[Value.okWide,hu]at hval
  obtain⟨cs,rfl,hsz,_⟩:=hval
  obtain⟨avs,a1,a2,a3,a4⟩:=Cd (X:=X) (φ:=φ) hm 20 fuel t _ _ _ hT hd (by simpa[Value.cells] using hsz)
  cases a1 with
  | struct a1 =>
   refine⟨.agg avs,.struct a1,?_,a4⟩
   have:cs=cs.toList.toArray:=by simp
   rw[this]
   exact .agg (by simpa[Value.cells] using a2)
 ·have hT':∀ l,T ≠ .struct l:=fun l e=>hs ⟨l,e⟩
  have hone:P.cellsOf t=1:=by
   cases T<;>first|exact absurd rfl (hT' _)|(simpa[Ty.fits] using h1)
  have hv:∃ c,v.cells.toList=[c]∧v=c:=by
   unfold ve at hT
   split at hT<;>(try (cases hT;done))<;>rename_i hu
   all_goals simp only[Value.okWide,hu]at hval
   ·cases v<;>simp[Cell.okWide,hu,Cell.ok]at hval<;>exact⟨_,rfl,rfl⟩
   ·cases v<;>simp[Cell.okWide,hu,Cell.ok]at hval<;>exact⟨_,rfl,rfl⟩
   ·cases v<;>simp[Cell.okWide,hu,Cell.ok]at hval<;>exact⟨_,rfl,rfl⟩
   ·cases v<;>simp[Cell.okWide,hu,Cell.ok]at hval<;>exact⟨_,rfl,rfl⟩
   ·split at hT
    ·simp only[Option.map_eq_some_iff]at hT
     obtain⟨l,_,rfl⟩:=hT
     exact absurd rfl (hT' l)
    ·cases hT
  obtain⟨c,hc,rfl⟩:=hv
  rw[hc]at hd
  obtain⟨avs,a1,a2,a3,a4⟩:=Cd (X:=X) (φ:=φ) hm 20 fuel t _ _ _ hT hd (by simp[hone])
  obtain⟨a,rfl⟩:=a1.one hT'
  refine⟨a,.cell a1 hT',?_,?_⟩
  ·cases a2 with
   | cons h _=>exact .one h
  ·simp only[AV.bulkL,Nat.add_zero]at a4
   have:a.argBulk=a.bulk:=by
    cases a1<;>first|rfl|exact absurd rfl (hT' _)
   omega
theorem xe (hm:∀ B,¬ X.Mut B){r:Reach}{b0:Nat}:∀ {ts:List TypeId} {Ts:List Ty} {vs:List Value} {ds:List (DataW H)} {ps:List MemPlace},wd P ts=some Ts→(∀ (j:Nat) t v,ts[j]?=some t→vs[j]?=some v→Value.okWide P X.w r b0 t v)→DataW.TrodAll enc P X.w base sp held ts vs ds ps →
  ∃ as,xh Ts as∧VRs φ X as vs∧AV.argsBulk as≤dBulkAll ds
 | [],Ts,vs,ds,ps,hT,_,h=>by
  simp only[wd,Option.some.injEq]at hT
  subst hT
  cases vs<;>cases ds<;>simp[DataW.TrodAll]at h
  exact⟨[],.nil,.nil,Nat.le_refl _⟩
 | t::ts,Ts,vs,ds,ps,hT,hval,h=>by
  simp only[wd,Option.bind_eq_some_iff]at hT
  obtain⟨T,h1,hT⟩:=hT
  split at hT
  ·rename_i hone
   simp only[Option.map_eq_some_iff]at hT
   obtain⟨Ts',h2,rfl⟩:=hT
   cases vs with
   | nil=>cases ds<;>simp[DataW.TrodAll]at h
   | cons v vs =>
    cases ds with
    | nil=>simp[DataW.TrodAll]at h
    | cons d ds =>
     obtain⟨p,q,g1,g2,rfl⟩:=h
     obtain⟨a,a1,a2,a3⟩:=J5 (X:=X) (φ:=φ) hm h1 hone (hval 0 t v rfl rfl) g1
     obtain⟨as,b1,b2,b3⟩:=xe hm h2 (fun j t v hj hv=>hval (j+1) t v (by simpa using hj) (by simpa using hv)) g2
     exact⟨a::as,.cons a1 b1,.cons a2 b2,by simp only[AV.argsBulk,dBulkAll];omega⟩
  ·cases hT
def Ctx.start (w:World):Ctx:=⟨fun _=>none,ad.empty,w,fun _=>False⟩
theorem Ctx.start_ok (w:World):bE φ (Ctx.start w) where
 cells:=fun id g cs h=>by cases h
 maps:=fun id kk es h=>by cases h
 zero:=fun id cs h=>by cases h
 loops:=fun id st p env ps a b h=>by cases h
 inj:=fun _ _ _ _ _ h=>by cases h
 dom:=fun _ _ _ h=>by cases h
 ids:=fun _ _ h=>by cases h
 mine:=fun B h=>h.elim
theorem Ctx.start_mut (w:World)(B:Nat):¬ (Ctx.start w).Mut B:=by
 rintro(h|⟨_,_,h⟩)
 ·exact h
 ·cases h
theorem pG {w w':World}{sp':Nat→Bool}(K:Kids P (·<P.types.size))(hsz:∀ {t e:TypeId},t<P.types.size→P.underlying t=some (.slice e)→0<P.cellsOf e)(hsame:∀ B,B<w.heap.size→w'.heap[B]?=w.heap[B]?) :
  ∀ {ts:List TypeId} {vs:List Value} {ds:List (DataW H)} {ps:List MemPlace},(∀ t∈ts,t<P.types.size)→DataW.TrodAll enc P w base (fun _=>true) true ts vs ds ps→(∀ p∈ps,p.block<w.heap.size)→(∀ p∈ps,sp' p.block=true)→DataW.TrodAll enc P w' base sp' true ts vs ds ps
 | [],vs,ds,ps,_,h,_,_=>by
  cases vs<;>cases ds<;>simp[DataW.TrodAll]at h ⊢
  exact h
 | t::ts,vs,ds,ps,ht,h,hlt,hs=>by
  cases vs with
  | nil=>cases ds<;>simp[DataW.TrodAll]at h
  | cons v vs =>
   cases ds with
   | nil=>simp[DataW.TrodAll]at h
   | cons d ds =>
    obtain⟨p,q,⟨fuel,g1⟩,g2,rfl⟩:=h
    refine⟨p,q,⟨fuel,DataW.trod_stays K hsz (fun h=>by cases h) (ht t Lm) g1 (fun x hx=>?_) (fun x hx=>hs x (by simp[hx]))⟩,pG K hsz hsame (fun t h=>ht t (by simp[h])) g2 (fun x hx=>hlt x (by simp[hx])) (fun x hx=>hs x (by simp[hx])),rfl⟩
    have hl:=hlt x (by simp[hx])
    cases x with
    | cell b off=>simp only[MemPlace.block]at hl;simp only[World.sameAt,World.cell?,hsame b hl]
    | map b=>exact hsame b hl
theorem JS {num:FuncId→Option Nat}{Φ:Lib}(hL:CN Φ φ num P){s:ChangeSpec}{f:FuncId}{fn:Func}{k:Nat}{Ts:List Ty}{tb:TypeId}{apart fresh handsOn again:Bool}
  (hk:φ k=some f) (hfn:P.funcs[f]?=some fn) (hts:wd P fn.params.toList=some Ts) (hlt:∀ t∈fn.params.toList,t<P.types.size) (hres:fn.resultTypes=#[tb]) (htb:P.underlying tb=some .bool)
  (K:Kids P (·<P.types.size)) (hsz:∀ {t e:TypeId},t<P.types.size→P.underlying t=some (.slice e)→0<P.cellsOf e) (hvars:s.vars=[])
  (hspec:∀ ds:List (DataW H),ds.length=fn.params.size→s.fn H ds={ results:=[.lit (.bool true)],args:=ds,vars:=[] })
  {W:World} {b0:Nat} {args:Array Value} {ds gs:List (DataW H)} {before:List MemPlace} (hval:∀ (j:Nat) t v,fn.params[j]?=some t→args[j]?=some v→Value.okWide P W .any b0 t v)
  (hW:DataW.Whole enc P fn.params.toList s.vars apart W args.toList ds gs before)
  (hruns:∀ as,xh Ts as→AV.argsBulk as≤dBulkAll (ds++gs)→bc Φ k as ad.empty (fun v _=>v = .bool true)) :
  Calls P f args W fun e W'=>∃ v,e = .returned v∧s.post enc P fn apart fresh handsOn again W args v W':=by
 have hW':=hW
 obtain⟨p,q,hA,hV,rfl,hfz,hnd⟩:=hW
 rw[hvars]at hV
 have hV0:gs=[]∧q=[]:=by
  cases gs with
  | nil=>exact⟨rfl,hV⟩
  | cons _ _=>exact hV.elim
 obtain⟨rfl,rfl⟩:=hV0
 obtain⟨as,a1,a2,a3⟩:=xe (X:=Ctx.start W) (φ:=φ) (Ctx.start_mut W) hts (fun j t v hj hv=>hval j t v (by simpa using hj) (by simpa using hv)) hA
 have hdl:ds.length=fn.params.size:=by
  have:∀ {ts:List TypeId} {vs:List Value} {ds:List (DataW H)} {ps:List MemPlace},DataW.TrodAll enc P W 0 (fun _=>true) true ts vs ds ps→ds.length=ts.length:=by
   intro ts
   induction ts with
   | nil=>intro vs ds ps h;cases vs<;>cases ds<;>simp[DataW.TrodAll]at h ⊢
   | cons t ts ih =>
    intro vs ds ps h
    cases vs with
    | nil=>cases ds<;>simp[DataW.TrodAll]at h
    | cons v vs =>
     cases ds with
     | nil=>simp[DataW.TrodAll]at h
     | cons d ds =>
      obtain⟨_,_,_,g2,_⟩:=h
      simp[ih g2]
  rw[this hA];simp
 have hr:=hruns as a1 (by simpa using a3)
 have hcall:=(Ip hL).fn k as ad.empty _ hr (Ctx.start W) args.toList f rfl (Ctx.start_ok W) a2 hk
 have hargs:args.toList.toArray=args:=by simp
 rw[hargs]at hcall
 refine hcall.mono ?_
 rintro e W' ⟨v,v',X',rfl,rfl,hle,hok,hvt,rfl⟩
 obtain rfl:=hvt.bool
 have hsame:∀ B,B<W.heap.size→X'.w.heap[B]?=W.heap[B]?:=fun B hB=>hle.kept B hB (fun _ _ h=>by cases h)
 have hplt:∀ x∈p,x.block<W.heap.size:=DataW.TrodAll.lt hA
 simp only[List.append_nil]at hW'
 have hsp:=hspec ds hdl
 have hres2:∀ (b:Nat) (sp:Nat→Bool) (hd:Bool),DataW.TrodAll enc P X'.w b sp hd fn.resultTypes.toList ((Value.bool true).resultList fn.resultTypes.size) (s.fn H (ds++[])).results []:=fun b sp hd=>by
  rw[hres,List.append_nil,hsp]
  exact trodAll_cons_mk (RowKit.shut_bool htb true) ChangeShapes.trodAll_mk0
 have hargs2:∀ sp:Nat→Bool,(∀ x∈p,sp x.block=true)→DataW.TrodAll enc P X'.w 0 sp true fn.params.toList args.toList (s.fn H (ds++[])).args p:=fun sp hs=>by
  rw[List.append_nil,hsp]
  exact pG K hsz hsame hlt hA hplt hs
 have hvars2:∀ sp:Nat→Bool,DataW.TrodVars enc P X'.w sp s.vars (s.fn H (ds++[])).vars []:=fun sp=>by
  rw[List.append_nil,hsp,hvars]
  rfl
 have hkept:W.keptBut X'.w (fun x=>x∈p∧(x∈([]:List MemPlace)∨x∈p∨x∈([]:List MemPlace))):=by
  refine⟨hle.os,hle.output,fun i hi=>?_⟩
  have:=hsame i hi
  rw[this]
  cases h0:W.heap[i]? with
  | none=>rfl
  | some o=>cases o<;>simp
 refine⟨_,rfl,ds,[],p,[],p,[],hW',hres2 _ _ _,hargs2 _ (fun x hx=>by simpa using hplt x hx),hvars2 _,hkept,fun _=>?_⟩
 refine⟨RowKit.ok_one hres rfl (RowKit.okWide_bool_mk htb true),(s.fn H (ds++[])).results++ds,[],p,⟨p,[],?_,by rw[hvars];rfl,by simp,?_,?_⟩,fun x hx _=>hx⟩
 ·have h3:=hargs2 (fun _=>true) (fun _ _=>rfl)
  rw[List.append_nil,hsp]at h3
  have:=ChangeShapes.trodAll_append h3 (hres2 0 (fun _=>true) true)
  simpa using this
 ·intro b off hp
  have hb:=hplt _ hp
  simp only[MemPlace.block]at hb
  have:=hfz b off (by simpa using hp)
  unfold World.frozen? at this ⊢
  simp only[hsame b hb]
  exact this
 ·intro ha
  simpa using hnd ha
end
end
section
open Go
def lz (tab:List (Nat×FuncId))(k:Nat):Option FuncId:=(tab.find? (fun p=>p.1 == k)).map (·.2)
def bL (tab:List (Nat×FuncId))(f:FuncId):Option Nat:=(tab.find? (fun p=>p.2 == f)).map (·.1)
def zD (P:Program)(tab:List (Nat×FuncId)):Phi:=⟨lz tab,fun m c d=>ji (bL tab) P m c=some d∧ey c=true⟩
def zU (l:List (Nat×sV)):Lib:=fun k=>(l.find? (fun p=>p.1 == k)).map (·.2)
def GA (P:Program)(tab:List (Nat×FuncId)):Bool :=
 (lz tab fU == none)&&tab.all fun p=>(lz tab p.1 == some p.2)&&(match P.funcs[p.2]? with
  | some fn => fn.body.isSome && !(fn.name == "runtime.NumGoroutine")
  | none=>false)
def re (P:Program)(tab:List (Nat×FuncId)):List (Nat×sV)→Prop
 | []=>True
 | (k,.code d)::r=>(lz tab k=none∨∃ fid,lz tab k=some fid∧(P.funcs[fid]?).bind (bM (bL tab) P)=some d)∧re P tab r
 | (_,.ext _)::r=>re P tab r
theorem oL {P:Program}{tab:List (Nat×FuncId)}:∀ {l:List (Nat×sV)},re P tab l→∀ {k d},(k,sV.code d)∈l→lz tab k=none∨∃ fid,lz tab k=some fid∧(P.funcs[fid]?).bind (bM (bL tab) P)=some d
 | [],_,k,d,h=>by cases h
 | (k',.code d')::r,hc,k,d,h=>by
  rcases List.mem_cons.1 h with e|h
  ·cases e;exact hc.1
  ·exact oL hc.2 h
 | (k',.ext p)::r,hc,k,d,h=>by
  rcases List.mem_cons.1 h with e|h
  ·cases e
  ·exact oL (l:=r) hc h
theorem G3 {P:Program}(hm:P.follows .mixedOrders=true){tab:List (Nat×FuncId)}{l:List (Nat×sV)}(h1:GA P tab=true)(h2:re P tab l)
  (h3:∀ k fid p,lz tab k=some fid→zU l k=some (.ext p)→∀ (X:Ctx) (args:List AV) (vals:List Value) (Q:AV→ad→Prop),p.pt args X.h Q→bE (zD P tab) X→VRs (zD P tab) X args vals→Calls P fid vals.toArray X.w (fi (zD P tab) P X Q)) :
  CN (zU l) (zD P tab) (bL tab) P where
 mixed:=hm
 nums:=fun f k h=>by
  simp only[bL,Option.map_eq_some_iff]at h
  obtain⟨p,hp,rfl⟩:=h
  have hmem:=List.mem_of_find?_eq_some hp
  have he:p.2=f:=by simpa using List.find?_some hp
  have h1:=(Bool.and_eq_true _ _ ▸ h1:_∧_).2
  have:=List.all_eq_true.1 h1 p hmem
  simp only[Bool.and_eq_true,beq_iff_eq]at this
  show lz tab p.1=some f
  rw[this.1,he]
 zero:=by
  have h1:=(Bool.and_eq_true _ _ ▸ h1:_∧_).1
  exact eq_of_beq h1
 loops:=fun _ _ _=>Iff.rfl
 enters:=fun k fid h=>by
  change lz tab k=some fid at h
  simp only[lz,Option.map_eq_some_iff]at h
  obtain⟨p,hp,rfl⟩:=h
  have h1:=(Bool.and_eq_true _ _ ▸ h1:_∧_).2
  have:=List.all_eq_true.1 h1 p (List.mem_of_find?_eq_some hp)
  simp only[Bool.and_eq_true]at this
  obtain⟨_,h⟩:=this
  split at h
  ·rename_i fn hfn
   simp only[Bool.and_eq_true,Bool.not_eq_true']at h
   exact⟨fn,hfn,h.1,h.2⟩
  ·cases h
 code:=fun k fid d h h'=>by
  simp only[zU,Option.map_eq_some_iff]at h'
  obtain⟨p,hp,e⟩:=h'
  have hmem:=List.mem_of_find?_eq_some hp
  have hk:p.1=k:=by simpa using List.find?_some hp
  obtain⟨k',df⟩:=p
  simp only at e hk
  subst e hk
  change lz tab k'=some fid at h
  rcases oL h2 hmem with g0|⟨fid',g1,g2⟩
  ·rw[h]at g0
   cases g0
  rw[h]at g1
  injection g1 with g1
  subst g1
  simp only[Option.bind_eq_some_iff]at g2
  exact g2
 ext:=h3
end
section
open Go
def fC (zs:List Int):List AV:=zs.map (.int .i64)
def oG:Ext where
 pt:=fun args h Q=>match args with
  | [.own id g e off n lim]=>∃ cs zs,h.get id=some (.cells g cs)∧e=1∧off+n≤cs.length∧n<4611686018427387904∧(cs.drop off).take n=fC zs∧Q (.tup []) (h.set id (.cells g (cs.take off++fC (zs.mergeSort (fun x y=>decide (x≤y)))++cs.drop (off+n))))
  | [.rd n cs _]=>n=0∧cs=[]∧Q (.tup []) h
  | _=>False
 mono:=fun hq h=>by
  split at h
  ·obtain⟨cs,zs,h1,h2,h3,h4,h5,h6⟩:=h
   exact⟨cs,zs,h1,h2,h3,h4,h5,hq _ _ h6⟩
  ·exact⟨h.1,h.2.1,hq _ _ h.2.2⟩
  ·exact h
 feas:=fun h=>by
  split at h
  ·obtain⟨cs,zs,h1,h2,h3,h4,h5,h6⟩:=h
   exact⟨_,_,h6⟩
  ·exact⟨_,_,h.2.2⟩
  ·exact h.elim
def gb (l:List (Int×Int)):List AV:=l.flatMap fun x=>[.int .i64 x.1,.int .i64 x.2]
theorem kG (l:List (Int×Int)):(gb l).length=l.length*2:=by
 induction l with
 | nil=>rfl
 | cons a l ih=>simp only[gb,List.flatMap_cons,List.length_append,List.length_cons,List.length_nil]at ih ⊢;omega
def ki (c:Nat):Ext where
  pt:=fun args h Q=>match args with
    | [.own id g e off n lim,.fn c' cap]=>c'=c∧cap=[]∧∃ cs l,h.get id=some (.cells g cs)∧e=2∧(off+n)*2≤cs.length∧n<4611686018427387904∧(cs.drop (off*2)).take (n*2)=gb l ∧
        ∀ l':List (Int×Int),l'.Perm l→l'.Pairwise (fun a b=>a.1≤b.1)→Q (.tup []) (h.set id (.cells g (cs.take (off*2)++gb l'++cs.drop ((off+n)*2))))
    | [.rd n cs _,.fn c' cap]=>c'=c∧cap=[]∧n=0∧cs=[]∧Q (.tup []) h
    | _=>False
  mono:=fun hq h=>by
    split at h
    · obtain⟨a,b,cs,l,h1,h2,h3,h4,h5,h6⟩:=h
      exact⟨a,b,cs,l,h1,h2,h3,h4,h5,fun l' p q=>hq _ _ (h6 l' p q)⟩
    · exact⟨h.1,h.2.1,h.2.2.1,h.2.2.2.1,hq _ _ h.2.2.2.2⟩
    · exact h
  feas:=fun h=>by
    split at h
    · obtain⟨a,b,cs,l,h1,h2,h3,h4,h5,h6⟩:=h
      refine⟨_,_,h6 (l.mergeSort fun a b=>decide (a.1≤b.1)) (List.mergeSort_perm _ _) ?_⟩
      have:=List.pairwise_mergeSort (le:=fun a b:Int×Int=>decide (a.1≤b.1)) (fun a b c h1 h2=>by simp at *;omega) (fun a b=>by simp;omega) l
      exact this.imp (by intro a b h;simpa using h)
    · exact⟨_,_,h.2.2.2.2⟩
    · exact h.elim
theorem bc.ext {Φ:Lib}{f:Nat}{p:Ext}{args h Q}(h0:(f == fU)=false)(hf:Φ f=some (.ext p))(hp:p.pt args h Q):bc Φ f args h Q :=
 .fold (by unfold nY;rw[if_neg (by simpa using h0),hf];exact hp)
end
section
open Go
def qZ (esz:Nat):Ext where
 pt:=fun args h Q=>match args with
  | [.rd 0 [] true,.int .i64 n]=>0≤n∧n≤268435456∧(n=0→Q (.rd 0 [] true) h)∧(0<n→∀ id,h.get id=none→Q (.own id 1 esz 0 0 none) (h.set id (.cells 1 [])))
  | _=>False
 mono:=fun hq h=>by
  split at h
  ·obtain⟨h1,h2,h3,h4⟩:=h
   exact⟨h1,h2,fun e=>hq _ _ (h3 e),fun e id hid=>hq _ _ (h4 e id hid)⟩
  ·exact h
 feas:=fun {args h Q} hh=>by
  split at hh
  ·obtain⟨h1,h2,h3,h4⟩:=hh
   rename_i n
   by_cases e:n=0
   ·exact⟨_,_,h3 e⟩
   ·obtain⟨id,hid⟩:=h.fresh
    exact⟨_,_,h4 Ll id hid⟩
  ·exact hh.elim
def fM (v:AV):Int:=match v with
 | .rd _ (.int _ x::_) _=>x
 | _=>0
def ni (c:Nat):Ext where
  pt:=fun args h Q=>match args with
    | [.own id g e off n lim,.fn c' [.ptr io gi oi]]=>c'=c∧e=1∧off=0∧oi=0∧((n=0∧(∃ cs,h.get id=some (.cells g cs))∧Q (.tup []) h)∨∃ (cs:List AV) (zs:List Int) (ip gp m:Nat) (pc rest:List AV),h.get id=some (.cells g cs)∧n≤cs.length∧n<4611686018427387904∧cs.take n=fC zs∧id≠io∧id≠ip ∧
        h.get io=some (.cells gi (.own ip gp 1 0 m none::rest))∧h.get ip=some (.cells gp pc)∧pc.length=m∧(∀ z∈zs,0≤z∧z<m)∧(∀ v∈pc,∃ k x y r f,v = .rd k (.int .i64 x :: .int .i64 y::r) f∧1≤k) ∧
        ∀ zs':List Int,zs'.Perm zs→zs'.Pairwise (fun a b=>fM (pc.getD a.toNat .undef)≤fM (pc.getD b.toNat .undef))→Q (.tup []) (h.set id (.cells g (fC zs'++cs.drop n))))
    | _=>False
  mono:=fun hq h=>by
    split at h
    · obtain⟨a1,a2,a3,a4,⟨a5,a6,a7⟩|⟨cs,zs,ip,gp,m,pc,rest,b1,b2,b3,b4,b5,b6,b7,b8,b9,b10,b11,b12⟩⟩:=h
      · exact⟨a1,a2,a3,a4,.inl ⟨a5,a6,hq _ _ a7⟩⟩
      · exact⟨a1,a2,a3,a4,.inr ⟨cs,zs,ip,gp,m,pc,rest,b1,b2,b3,b4,b5,b6,b7,b8,b9,b10,b11,fun l' p q=>hq _ _ (b12 l' p q)⟩⟩
    · exact h
  feas:=fun h=>by
    split at h
    · obtain⟨a1,a2,a3,a4,⟨a5,a6,a7⟩|⟨cs,zs,ip,gp,m,pc,rest,b1,b2,b3,b4,b5,b6,b7,b8,b9,b10,b11,b12⟩⟩:=h
      · exact⟨_,_,a7⟩
      · refine⟨_,_,b12 (zs.mergeSort fun a b=>decide (fM (pc.getD a.toNat .undef)≤fM (pc.getD b.toNat .undef))) (List.mergeSort_perm _ _) ?_⟩
        have:=List.pairwise_mergeSort (le:=fun a b:Int=>decide (fM (pc.getD a.toNat .undef)≤fM (pc.getD b.toNat .undef))) (fun a b c h1 h2=>by simp at *;omega) (fun a b=>by simp;omega) zs
        exact this.imp (by intro a b h;simpa using h)
    · exact h.elim
end
end Go.Proofs.YtlnobeojgifojaaGreatDoor
