/- From the model's code to the abstract machine's. -/
import Derived.Test.YtlnobeojgifojaaGreatDoorA2
import Derived.Laws.Sem
import Derived.Laws.Cells
import Derived.Laws.Slices
import Derived.Laws.Small
import Derived.Maps.StringElems
set_option linter.unusedSimpArgs false
set_option linter.unusedVariables false
set_option linter.unusedSectionVars false
namespace Go.Proofs.YtlnobeojgifojaaGreatDoor
section
open Go
def CG (num:FuncId→Option Nat):Value→Option AV
 | .bool b=>some (.bool b)
 | .int k n=>some (.int k n)
 | .string s=>some (.str s.data.toList)
 | .pointer none=>some .nilp
 | .slice none 0 0=>some (.rd 0 [] true)
 | .map none=>some .nilm
 | .func (.func f) first captured=>if first.size=0∧captured.size=0 then(num f).map (.fn · []) else none
 | .nilFunc=>some .nilf
 | .nilIface=>some .nili
 | _=>none
def xb (num:FuncId→Option Nat):List Value→Option (List AV)
 | []=>some []
 | v::vs=>(CG num v).bind fun a=>(xb num vs).map (a::·)
def HM (num:FuncId→Option Nat)(v:Value):Option AV :=
 match v with
 | .agg cs=>(xb num cs.toList).map .agg
 | v=>CG num v
def cd (num:FuncId→Option Nat):Operand→Option bA
 | .tmp t=>some (.tmp t)
 | .const v=>(HM num v).map .const
 | .func f=>(num f).map fun k => .const (.fn k [])
 | .global _=>none
def nk (num:FuncId→Option Nat):List Operand→Option (List bA)
 | []=>some []
 | x::xs=>(cd num x).bind fun a=>(nk num xs).map (a::·)
def nW (num:FuncId→Option Nat):Option Operand→Option (Option bA)
 | none=>some none
 | some x=>(cd num x).map some
def r6 (P:Program)(t:TypeId):Option Bool :=
 match P.underlying t with
 | some (.struct _)|some (.array _ _)=>some true
 | some _=>some false
 | none=>none
def szT (P:Program)(t:TypeId):Option Nat:=(P.info? t).map (·.size)
def ml (num:FuncId→Option Nat)(P:Program)(t:TypeId):Option (List AV):=(P.info? t).bind fun i=>i.zero.bind fun z=>xb num z.cells.toList
def nL (num:FuncId→Option Nat)(place:Nat→Option (Nat×Nat)):List (Nat×Operand)→Option (List (Nat×Nat×bA))
 | []=>some []
 | (i,x)::r=>(place i).bind fun p=>(cd num x).bind fun d=>(nL num place r).map ((p.1,p.2,d)::·)
def o8 (P:Program):List Field→Option (List (Nat×Nat))
 | []=>some []
 | f::fs=>(szT P f.type).bind fun n=>(o8 P fs).map ((f.offset,n)::·)
def Ci (P:Program)(t:TypeId):Bool :=
 match P.underlying t with
 | some (.int _)|some .string=>true
 | _=>false
def Cy (P:Program):Nat→List Field→Bool
 | _,[]=>true
 | i, f :: fs => f.name != "_" && decide (f.offset = i) && (match P.underlying f.type with
  | some (.int _)=>true
  | _=>false)&&Cy P (i+1) fs
def pp (P:Program)(t:TypeId):Option Nat :=
 match P.underlying t with
 | some (.struct fs)=>if Cy P 0 fs.toList && !P.stoodInHeld t && !P.eqGuardType P.depth t then some fs.size else none
 | _=>none
def yi:Operand→Bool
 | .const (.slice none 0 0)=>true
 | _=>false
def rE (P:Program)(t:TypeId):Bool :=
 match P.info? t with
 | some i=>decide (0<i.bytes∧i.bytes≤2 ^ 13)
 | none=>false
def nH (P:Program)(kt:TypeId):Option (Option IntKind) :=
 match P.underlying kt with
 | some (.int k)=>some (some k)
 | some .string=>some none
 | _=>none
def cOp (num:FuncId→Option Nat)(P:Program)(bx:Bool)(mode:Nat):Op→Option DOp
  | .move x | .assign x=>(cd num x).map .mv
  | .pick c a b=>(cd num c).bind fun c=>(cd num a).bind fun a=>(cd num b).map fun b => .pick c a b
  | .alloc t=>(ml num P t).map .alloc
  | .box _ x=>(cd num x).map .box
  | .build t parts=>(ml num P t).bind fun z =>
    match P.underlying t with
    | some (.struct fs)=>(o8 P fs.toList).bind fun pl=>(nL num (pl[·]?) parts.toList).map fun ps => .build z ps
    | some (.array _ e)=>(szT P e).bind fun n=>(nL num (fun i=>some (i*n,n)) parts.toList).map fun ps => .build z ps
    | _=>none
  | .buildSlice t len parts =>
    match P.underlying t with
    | some (.slice e)=>(szT P e).bind fun n=>(ml num P e).bind fun z=>if z.length=n∧0<n∧len*n≤2 ^ 20 then
        (nL num (fun i=>some (i*n,n)) parts.toList).map fun ps => .lit n len (List.replicate len z).flatten ps else none
    | _=>none
  | .load t x=>(r6 P t).bind fun ag=>(szT P t).bind fun n=>(cd num x).map fun x => .load bx (if ag then n else 1) ag x
  | .store t x v=>(szT P t).bind fun n=>(cd num x).bind fun x=>(cd num v).map fun v => .store n x v
  | .nilCheck x=>(cd num x).map .nilck
  | .binOp op t x y _=>if Ci P t then(cd num x).bind fun x=>(cd num y).map fun y => .bin op x y else
      match P.underlying t,op with
      | some .bool,.eql=>(cd num x).bind fun x=>(cd num y).map fun y => .eqB false x y
      | some .bool,.neq=>(cd num x).bind fun x=>(cd num y).map fun y => .eqB true x y
      | some (.slice _),.eql=>if yi y then(cd num x).map fun x => .eqN false x else none
      | some (.slice _),.neq=>if yi y then(cd num x).map fun x => .eqN true x else none
      | some (.struct _),.eql=>(pp P t).bind fun k=>(cd num x).bind fun x=>(cd num y).map fun y => .eqS false k x y
      | some (.struct _),.neq=>(pp P t).bind fun k=>(cd num x).bind fun x=>(cd num y).map fun y => .eqS true k x y
      | _,_=>none
  | .unOp op _ x=>(cd num x).map fun x => .un op x
  | .convert src dst x =>
    match P.underlying src,P.underlying dst with
    | some (.int _),some (.int k)=>(cd num x).map fun x => .conv k x
    | some (.slice e),some .string=>(match P.underlying e with
      | some (.int .u8)=>if szT P e=some 1 then(cd num x).map .strOf else none
      | _=>none)
    | some .string,some (.slice e)=>(match P.underlying e with
      | some (.int .u8)=>(cd num x).map .bytesOf
      | _=>none)
    | some .string,some .string=>(cd num x).map fun x => .sliceStr x none none
    | _,_=>none
  | .makeFunc (.func f) first captured=>if first.size=0 then(num f).bind fun k=>(nk num captured.toList).map fun cs => .mkfn k cs else none
  | .makeMap t none=>match P.underlying t with
    | some (.map kt _)=>(nH P kt).map .mkmap
    | _=>none
  | .makeSlice t l c =>
    match P.underlying t with
    | some (.slice e)=>(ml num P e).bind fun z=>if szT P e=some z.length∧0<z.length∧rE P e then
        (cd num l).bind fun l=>(cd num c).map fun c => .mkslice z l c else none
    | _=>none
  | .slice t x lo hi mx =>
    match P.underlying t with
    | some (.slice e)=>(szT P e).bind fun n=>(cd num x).bind fun x=>(nW num lo).bind fun lo=>(nW num hi).bind fun hi=>(nW num mx).bind fun mx =>
        if mx.isSome&&hi.isNone then none else some (.slice n x lo hi mx)
    | some .string=>if mx.isSome then none else(cd num x).bind fun x=>(nW num lo).bind fun lo=>(nW num hi).map fun hi => .sliceStr x lo hi
    | some (.array len e)=>if mx.isSome then none else(szT P e).bind fun n=>(cd num x).bind fun x=>(nW num lo).bind fun lo=>(nW num hi).map fun hi => .sliceA len n x lo hi
    | _=>none
  | .fieldAddr t x i =>
    match P.underlying t with
    | some (.struct fs)=>fs[i]?.bind fun f=>(szT P f.type).bind fun n=>if n=0 then none else(cd num x).map fun x => .fieldAddr f.offset x
    | _=>none
  | .field t x i =>
    match P.underlying t with
    | some (.struct fs)=>fs[i]?.bind fun f=>(r6 P f.type).bind fun ag=>(szT P f.type).bind fun n=>(cd num x).map fun x => .field f.offset (if ag then n else 1) ag x
    | _=>none
  | .indexAddr t x i =>
    match P.underlying t with
    | some (.slice e)=>(szT P e).bind fun n=>if n=0 then none else(cd num x).bind fun x=>(cd num i).map fun i => .indexAddr n x i
    | some (.array len e)=>(szT P e).bind fun n=>if n=0 then none else(cd num x).bind fun x=>(cd num i).map fun i => .indexAddrA len n x i
    | _=>none
  | .index t x i =>
    match P.underlying t with
    | some (.array len e)=>(r6 P e).bind fun ag=>(szT P e).bind fun n=>if ag=false∧n≠1 then none else(cd num x).bind fun x=>(cd num i).map fun i => .indexA len n ag x i
    | some .string=>(cd num x).bind fun x=>(cd num i).map fun i => .indexStr x i
    | _=>none
  | .lookup t x k ok =>
    match P.underlying t with
    | some (.map kt e)=>(nH P kt).bind fun kk=>((P.info? e).bind (·.zero)).bind fun z0=>(HM num z0).bind fun z=>(cd num x).bind fun x=>(cd num k).map fun k => .lookup kk z ok x k
    | _=>none
  | .mapUpdate t m k v | .insert t m k v =>
    match P.underlying t with
    | some (.map kt _)=>(nH P kt).bind fun kk=>(cd num m).bind fun m=>(cd num k).bind fun k=>(cd num v).map fun v => .update kk m k v
    | _=>none
  | .extract x i=>(cd num x).map fun x => .extract x i
  | .panic _=>some .stuck
  | .makeInterface _ _=>some .stuck
  | .call c =>
    match c.callee,c.args.toList,c.argTypes.toList with
    | .value (.func f),args,_=>(num f).bind fun k=>(nk num args).map fun as => .call mode k as
    | .value (.tmp t),args,_=>(nk num args).map fun as => .callv mode (.tmp t) as
    | .builtin .len,[x],[t] =>
      match P.underlying t with
      | some .string=>(cd num x).map (.len 1)
      | some (.slice _)=>(cd num x).map (.len 0)
      | some (.map ..)=>(cd num x).map (.len 2)
      | _=>none
    | .builtin .append,[x,y],[t,u] =>
      match P.underlying t,P.underlying u with
      | some (.slice e),some (.slice _)|some (.slice e),some .string=>(szT P e).bind fun n=>if 0<n∧rE P e∧(ml num P e).map (·.length)=some n then
          (cd num x).bind fun x=>(cd num y).map fun y => .append n x y else none
      | _,_=>none
    | .builtin .clear,[x],[t] =>
      match P.underlying t with
      | some (.slice e)=>(ml num P e).bind fun z=>(cd num x).map fun x => .clear z x
      | _=>none
    | .builtin .copy,[x,y],[t,_u] =>
      match P.underlying t with
      | some (.slice e)=>(szT P e).bind fun n=>(cd num x).bind fun x=>(cd num y).map fun y => .copy n x y
      | _=>none
    | .builtin .max,[x,y],_=>(cd num x).bind fun x=>(cd num y).map fun y => .mx [x,y]
    | .builtin .min,[x,y],_=>(cd num x).bind fun x=>(cd num y).map fun y => .mn [x,y]
    | _,_,_=>none
  | _=>none
end
section
open Go
section
variable {φ:Phi} {num:FuncId→Option Nat} {P:Program} {X:Ctx}
theorem Ao (hn:∀ f k,num f=some k→φ k=some f){v:Value}{a:AV}(h:CG num v=some a):VC φ X a v:=by
 unfold CG at h
 split at h
 ·injection h with h;subst h;exact .bool _
 ·injection h with h;subst h;exact .int _ _
 ·injection h with h;subst h;exact .str _
 ·injection h with h;subst h;exact .nilp
 ·injection h with h;subst h;exact .rd (vs:=[]) (fun h=>by simp at h) .nil (Nat.le_refl _) (fun _=>rfl)
 ·injection h with h;subst h;exact .nilm
 rotate_left
 ·injection h with h;subst h;exact .nilf
 ·injection h with h;subst h;exact .nili
 ·cases h
 rename_i f first captured
 split at h
 ·rename_i hs
  cases hf:num f with
  | none=>rw[hf]at h;cases h
  | some k =>
   rw[hf]at h
   injection h with h
   subst h
   obtain⟨h1,h2⟩:=hs
   have e1:first=#[]:=Array.eq_empty_of_size_eq_zero h1
   have e2:captured=#[]:=Array.eq_empty_of_size_eq_zero h2
   subst e1 e2
   exact .fn (vs:=[]) (hn f k hf) .nil
 ·cases h
theorem uR (hn:∀ f k,num f=some k→φ k=some f):∀ {vs:List Value} {as:List AV},xb num vs=some as→VCs φ X as vs
 | [],as,h=>by simp[xb]at h;subst h;exact .nil
 | v::vs,as,h=>by
  simp only[xb,Option.bind_eq_some_iff,Option.map_eq_some_iff]at h
  obtain⟨a,ha,bs,hb,rfl⟩:=h
  exact .cons (Ao hn ha) (uR hn hb)
theorem CF (hn:∀ f k,num f=some k→φ k=some f){v:Value}{a:AV}(h:HM num v=some a):VR φ X a v:=by
 unfold HM at h
 split at h
 ·rename_i cs
  simp only[Option.map_eq_some_iff]at h
  obtain⟨as,ha,rfl⟩:=h
  exact VR.agg (vs:=cs.toList) (uR hn ha)
 ·exact .one (Ao hn h)
variable {n bs:Nat} {env:Env} {act:Act}
theorem Rel.ev (hn:∀ f k,num f=some k→φ k=some f)(hR:Rel φ n bs X env act){x:Operand}{d:bA}(h:cd num x=some d):VT φ X (ev env d) (act.eval x):=by
 unfold cd at h
 split at h
 ·injection h with h;subst h;exact hR.tmps _
 ·simp only[Option.map_eq_some_iff]at h
  obtain⟨a,ha,rfl⟩:=h
  exact .one (CF hn ha)
 ·simp only[Option.map_eq_some_iff]at h
  obtain⟨k,hk,rfl⟩:=h
  exact .one (.one (VC.fn (vs:=[]) (hn _ _ hk) .nil))
 ·cases h
theorem VT.vc {a:AV}{v:Value}(h:VT φ X a v)(ha:a.oneCell=true):VC φ X a v:=by
 cases h with
 | one h=>cases h with
  | one h=>exact h
  | agg=>simp[AV.oneCell]at ha
  | undef=>simp[AV.oneCell]at ha
 | tup=>simp[AV.oneCell]at ha
theorem VT.int {k:IntKind}{m:Int}{v:Value}(h:VT φ X (.int k m) v):v = .int k m:=by cases h.vc rfl;rfl
theorem VT.bool {b:Bool}{v:Value}(h:VT φ X (.bool b) v):v = .bool b:=by cases h.vc rfl;rfl
theorem VT.str {s:List UInt8}{v:Value}(h:VT φ X (.str s) v):v = .string ⟨s.toArray⟩:=by cases h.vc rfl;rfl
theorem VT.agg {cs:List AV}{v:Value}(h:VT φ X (.agg cs) v):∃ vs,v = .agg vs.toArray∧VCs φ X cs vs:=by
 cases h with
 | one h=>cases h with
  | one h=>cases h
  | agg h=>exact⟨_,rfl,h⟩
theorem VT.tups {cs:List AV}{v:Value}(h:VT φ X (.tup cs) v):∃ vs,v = .tuple vs.toArray∧VRs φ X cs vs:=by
 cases h with
 | one h=>cases h with
  | one h=>cases h
 | tup h=>exact⟨_,rfl,h⟩
theorem VT.cells {a:AV}{v:Value}(h:VT φ X a v)(hc:a ≠ .undef)(ht:∀ vs,a ≠ .tup vs):VCs φ X a.cells v.cells.toList:=by
 cases h with
 | one h=>exact h.cells hc
 | tup=>exact absurd rfl (ht _)
theorem VRs.get:∀ {as:List AV} {vs:List Value},VRs φ X as vs→∀ {i:Nat} {a:AV},as[i]?=some a→∃ v,vs[i]?=some v∧VR φ X a v
 | _,_,.nil,_,_,h=>by simp at h
 | _,_,.cons (v:=v) hc b,i,a,h=>by
  cases i with
  | zero=>simp at h;subst h;exact⟨v,rfl,hc⟩
  | succ i=>simp at h;obtain⟨v',h1,h2⟩:=b.get h;exact⟨v',by simpa using h1,h2⟩
theorem HO {op:BinOp}{t u:TypeId}{x y:Operand}{a b r:AV}{o:Oper}(ho:o.op = .binOp op t x y u)(hx:VT φ X a (act.eval x))(hy:VT φ X b (act.eval y))(hs:Ci P t=true)
  (h:xd op a b=some r):∃ v',(execOp act.eval o).run P X.w = .ok (.value v') X.w∧VT φ X r v':=by
 unfold xd at h
 split at h
 ·rename_i k i k' j
  have e1:=hx.int
  have e2:=hy.int
  split at h
  ·split at h
   ·cases h
   ·injection h with h;subst h
    refine⟨_,?_,.one (.one (.int _ _))⟩
    simp[execOp,ho,e1,e2,Go.binOp,Op.shift,eqGuard, *]
  ·split at h
   ·cases h
   ·injection h with h;subst h
    refine⟨_,?_,.one (.one (.int _ _))⟩
    simp[execOp,ho,e1,e2,Go.binOp,Op.shift,eqGuard, *]
  ·rename_i h1 h2
   split at h
   ·rename_i hk
    subst hk
    unfold BT at h
    split at h<;>first
     | (cases h;done)
     | (
      injection h with h;subst h
      refine⟨_,?_,.one (.one (by first|exact .int _ _|exact .bool _))⟩
      simp[execOp,ho,e1,e2,Go.binOp,Op.intArith,Op.intBits,Op.intCmp,eqGuard, *]
      try (first|rfl|(congr 1;simp[BEq.beq];done)|done))
     | (
      split at h
      ·cases h
      ·injection h with h;subst h
       refine⟨_,?_,.one (.one (.int _ _))⟩
       simp[execOp,ho,e1,e2,Go.binOp,Op.intDiv,eqGuard, *])
   ·cases h
 ·rename_i s1 s2
  have e1:=hx.str
  have e2:=hy.str
  split at h
  ·split at h
   ·rename_i hl
    injection h with h;subst h
    have hm:¬ ((s1.toArray.size+s2.toArray.size:Nat):Int)>IntKind.i64.max:=by
     have h2:G0=1099511627776:=rfl
     have h3:IntKind.i64.max=9223372036854775807:=by decide
     rw[h3]
     simp only[List.size_toArray]
     omega
    have hap:(⟨s1.toArray⟩:ByteArray)++⟨s2.toArray⟩=⟨(s1++s2).toArray⟩:=by
     apply ByteArray.ext
     apply Array.toList_inj.1
     simp[ByteArray.toList_data_append]
    refine⟨_,?_,.one (.one (.str _))⟩
    have hm':((s1.length:Int)+s2.length≤9223372036854775807):=by simpa[IntKind.max,IntKind.signed,IntKind.bits] using hm
    simp[execOp,ho,e1,e2,Go.binOp,Op.stringOp,eqGuard,hap,ByteArray.size,hm']
   ·cases h
  ·injection h with h;subst h
   refine⟨_,?_,.one (.one (.bool _))⟩
   simp[execOp,ho,e1,e2,Go.binOp,Op.stringOp,eqGuard,ByteArray.toList_eq];try (rw[Bool.eq_iff_iff];simp)
  ·injection h with h;subst h
   refine⟨_,?_,.one (.one (.bool _))⟩
   simp[execOp,ho,e1,e2,Go.binOp,Op.stringOp,eqGuard,ByteArray.toList_eq];try (rw[Bool.eq_iff_iff];simp)
  ·cases h
 ·cases h
theorem Hs {neg:Bool}{op:BinOp}{t u:TypeId}{x y:Operand}{a b r:AV}{o:Oper}(ho:o.op = .binOp op t x y u)(hop:op=if neg then .neq else .eql)(hx:VT φ X a (act.eval x))(hy:VT φ X b (act.eval y))
  (hs:P.underlying t=some .bool) (h:eqB neg a b=some r):∃ v',(execOp act.eval o).run P X.w = .ok (.value v') X.w∧VT φ X r v':=by
 unfold eqB at h
 split at h
 ·rename_i b1 b2
  have e1:=hx.bool
  have e2:=hy.bool
  injection h with h;subst h
  refine⟨_,?_,.one (.one (.bool _))⟩
  cases neg
  ·simp only[Bool.false_eq_true,if_false]at hop
   subst hop
   simp[execOp,ho,e1,e2,eqGuard,run_eql_bool X.w t b1 b2 hs]
  ·simp only[if_true]at hop
   subst hop
   simp[execOp,ho,e1,e2,eqGuard,run_neq_bool X.w t b1 b2 hs]
 ·cases h
theorem VT.val {a:AV}{v:Value}(h:VT φ X a v)(ha:a.isVal=true):VCs φ X a.cells v.cells.toList :=
 h.cells (by rintro rfl;simp[AV.isVal]at ha) (by rintro vs rfl;simp[AV.isVal]at ha)
theorem ep {vs ws:List Value}{off:Nat}(h:off+ws.length≤vs.length):(cF vs off ws).length=vs.length:=by simp[cF];omega
theorem wU (off:Nat):∀ (l:List Value) (k:Nat) (C:Array Value),off+k+l.length≤C.size →
  ((l.zipIdx k).foldl (fun cs (c,j)=>cs.setIfInBounds (off+j) c) C).toList=cF C.toList (off+k) l
 | [],k,C,_=>by simp[cF]
 | v::l,k,C,h=>by
  simp only[List.zipIdx_cons,List.foldl_cons]
  simp only[List.length_cons]at h
  rw[wU off l (k+1) _ (by simp;omega)]
  unfold cF
  have hk:off+k<C.toList.length:=by simp;omega
  rw[Array.toList_setIfInBounds,List.set_eq_take_append_cons_drop,if_pos hk]
  have e1:(C.toList.take (off+k)).length=off+k:=by simp;omega
  rw[show off+(k+1)=off+k+1 by omega]
  rw[List.take_append,List.drop_append,e1]
  simp only[List.take_of_length_le (show(C.toList.take (off+k)).length≤off+k+1 by omega),List.drop_eq_nil_of_le (show(C.toList.take (off+k)).length≤off+k+1+l.length by omega)]
  rw[show off+k+1-(off+k)=1 by omega,show off+k+1+l.length-(off+k)=l.length+1 by omega]
  simp[List.drop_drop]
  congr 1
  omega
theorem ym (hn:∀ f k,num f=some k→φ k=some f)(hR:Rel φ n bs X env act){place:Nat→Option (Nat×Nat)}:∀ {parts:List (Nat×Operand)} {ps:List (Nat×Nat×bA)} {cs cs':List AV} {C:Array Value},
  nL num place parts=some ps→VCs φ X cs C.toList→ft env cs ps=some cs'→∃ C',Instr.fill place C (parts.map fun p=>(p.1,act.eval p.2))=some C'∧VCs φ X cs' C'.toList
 | [],ps,cs,cs',C,hp,hC,hf=>by
  simp[nL]at hp;subst hp
  simp[ft]at hf;subst hf
  exact⟨C,rfl,hC⟩
 | (i,x)::r,ps,cs,cs',C,hp,hC,hf=>by
  simp only[nL,Option.bind_eq_some_iff,Option.map_eq_some_iff]at hp
  obtain⟨p,hpl,d,hd,qs,hq,rfl⟩:=hp
  have hv:=hR.ev hn hd
  simp only[ft]at hf
  split at hf
  ·rename_i hc
   obtain⟨c1,c2,c3⟩:=hc
   have hcs:=hv.val c1
   have hl:=hcs.length
   have hl2:=hC.length
   have hfit:p.1+(act.eval x).cells.toList.length≤C.size:=by simp at hl hl2 ⊢;omega
   have hput:=hC.put hcs p.1 Ll
   obtain⟨C',h1,h2⟩:=ym hn hR (C:=(act.eval x).cells.zipIdx.foldl (fun cs (c,j)=>cs.setIfInBounds (p.1+j) c) C) hq (by
    have:=wU p.1 (act.eval x).cells.toList 0 C (by simpa using hfit)
    rw[← Array.foldl_toList,Array.toList_zipIdx,this]
    simpa using hput) hf
   refine⟨C',?_,h2⟩
   simp only[List.map_cons,Instr.fill,hpl]
   rw[if_neg ?_]
   ·exact h1
   ·simp at hl hfit;simp;omega
  ·cases hf
end
end
section
open Go
section
variable {φ:Phi} {num:FuncId→Option Nat} {P:Program} {X:Ctx} {n bs:Nat} {env:Env} {act:Act} {o:Oper} {v:AV}
def iO (φ:Phi)(P:Program)(X:Ctx)(o:Oper)(act:Act)(v:AV):Prop :=
 ∃ v',(execOp act.eval o).run P X.w = .ok (.value v') X.w∧VT φ X v v'
theorem Cp {t:TypeId}{ag:Bool}{sz off:Nat}{cs:List AV}{vs:List Value}(ha:r6 P t=some ag)(hs:szT P t=some sz)(hc:VCs φ X cs vs)(hl:off+(if ag then sz else 1)≤cs.length) :
  ∃ v',(Go.part t vs.toArray off).run P X.w = .ok v' X.w∧VT φ X (part ag off (if ag then sz else 1) cs) v':=by
 have hlen:=hc.length
 simp only[szT,Option.map_eq_some_iff]at hs
 obtain⟨info,hi,hsz⟩:=hs
 cases ag with
 | true =>
  simp only[if_true]at hl ⊢
  refine⟨.agg ((vs.drop off).take sz).toArray,?_,.one (.agg ((hc.drop off).take sz))⟩
  unfold r6 at ha
  have hex:vs.toArray.extract off (off+sz)=((vs.drop off).take sz).toArray:=by
   apply Array.toList_inj.1
   simp[List.extract_eq_take_drop]
  split at ha
  ·rename_i fs hu;simp[Go.part,isAgg,underlying,hu,sizeOf,typeInfo,hi,hsz,hex]
  ·rename_i m e hu;simp[Go.part,isAgg,underlying,hu,sizeOf,typeInfo,hi,hsz,hex]
  ·cases ha
  ·cases ha
 | false =>
  simp only[Bool.false_eq_true,if_false]at hl ⊢
  obtain⟨a,he⟩:∃ a,cs[off]?=some a:=⟨_,List.getElem?_eq_getElem Ll⟩
  obtain⟨w,h1,h2⟩:=hc.get he
  refine⟨w,?_,?_⟩
  ·unfold r6 at ha
   split at ha
   ·cases ha
   ·cases ha
   ·rename_i d hu1 hu2 hu
    have:(isAgg t).run P X.w = .ok false X.w:=by
     cases d<;>simp_all[isAgg,underlying]
    simp[Go.part,this,h1]
   ·cases ha
  ·simp only[part,Bool.false_eq_true,if_false,List.getD_eq_getElem?_getD,he,Option.getD_some]
   exact .one (.one h2)
theorem Addr.add_plain (a:Addr)(h:a.spot=none)(k:Nat):a.add k=⟨a.block,a.off+k,none⟩:=by
 unfold Go.Addr.add
 split
 ·rename_i h0;subst h0;cases a;simp_all
 ·rfl
variable (hn:∀ f k,num f=some k→φ k=some f) (hR:Rel φ n bs X env act)
include hn hR
theorem Jj {x:Operand}{d:bA}(ho:o.op = .move x∨o.op = .assign x)(hd:cd num x=some d):iO φ P X o act (ev env d):=by
 refine⟨_,?_,hR.ev hn hd⟩
 rcases ho with ho|ho<;>simp[execOp,ho]
theorem Iv {c a b:Operand}{c' a' b':bA}(ho:o.op = .pick c a b)(hc:cd num c=some c')(ha:cd num a=some a')(hb:cd num b=some b')
  (hv:a8 env (.pick c' a' b')=some v):iO φ P X o act v:=by
 simp only[a8]at hv
 split at hv
 ·rename_i t ht
  injection hv with hv;subst hv
  have h1:=hR.ev hn hc
  rw[ht]at h1
  have e1:=h1.bool
  refine⟨if t then act.eval a else act.eval b,?_,?_⟩
  ·simp[execOp,ho,e1,asBool]
  ·split
   ·exact hR.ev hn ha
   ·exact hR.ev hn hb
 ·cases hv
theorem GT {x:Operand}{d:bA}(ho:o.op = .nilCheck x)(hd:cd num x=some d)(hv:a8 env (.nilck d)=some v):iO φ P X o act v:=by
 simp only[a8]at hv
 have h1:=hR.ev hn hd
 split at hv
 ·rename_i id g off he
  injection hv with hv;subst hv
  rw[he]at h1
  refine⟨_,?_,h1⟩
  have h2:=h1.vc rfl
  generalize hx:act.eval x=y at h2
  cases h2
  simp[execOp,ho,hx]
 ·rename_i cs he
  injection hv with hv;subst hv
  rw[he]at h1
  refine⟨_,?_,h1⟩
  have h2:=h1.vc rfl
  generalize hx:act.eval x=y at h2
  cases h2
  simp[execOp,ho,hx]
 ·cases hv
theorem KE {op:UnOp}{t:TypeId}{x:Operand}{d:bA}(ho:o.op = .unOp op t x)(hd:cd num x=some d)(hv:FX op (ev env d)=some v):iO φ P X o act v:=by
 have h1:=hR.ev hn hd
 unfold FX at hv
 split at hv
 ·rename_i b he
  injection hv with hv;subst hv
  rw[he]at h1
  have e1:=h1.bool
  exact⟨_,by simp[execOp,ho,e1,Op.unary],.one (.one (.bool _))⟩
 ·rename_i k m he
  injection hv with hv;subst hv
  rw[he]at h1
  have e1:=h1.int
  exact⟨_,by simp[execOp,ho,e1,Op.unary,Op.intArith],.one (.one (.int _ _))⟩
 ·cases hv
theorem I1 {src dst:TypeId}{k k':IntKind}{x:Operand}{d:bA}(ho:o.op = .convert src dst x)(hs:P.underlying src=some (.int k'))(hdst:P.underlying dst=some (.int k))(hd:cd num x=some d)
  (hv:a8 env (.conv k d)=some v):iO φ P X o act v:=by
 have h1:=hR.ev hn hd
 simp only[a8]at hv
 split at hv
 ·rename_i k2 m he
  injection hv with hv;subst hv
  rw[he]at h1
  have e1:=h1.int
  exact⟨_,by simp[execOp,ho,e1,convert,underlying,hs,hdst,Conv.intToInt],.one (.one (.int _ _))⟩
 ·cases hv
theorem Cr:∀ {xs:List Operand} {ds:List bA},nk num xs=some ds→∀ (hf:∀ d∈ds,(ev env d).oneCell=true),VCs φ X (ds.map (ev env)) (xs.map act.eval)
 | [],ds,h,_=>by simp[nk]at h;subst h;exact .nil
 | x::xs,ds,h,hf=>by
  simp only[nk,Option.bind_eq_some_iff,Option.map_eq_some_iff]at h
  obtain⟨d,hd,es,he,rfl⟩:=h
  exact .cons ((hR.ev hn hd).vc (hf d Lm)) (Cr he fun d hd=>hf d (by simp[hd]))
theorem IF {f:FuncId}{k:Nat}{first captured:Array Operand}{ds:List bA}(ho:o.op = .makeFunc (.func f) first captured)(h0:first.size=0)(hk:num f=some k)(hd:nk num captured.toList=some ds)
  (hv:a8 env (.mkfn k ds)=some v):iO φ P X o act v:=by
 simp only[a8]at hv
 split at hv
 case isFalse=>cases hv
 rename_i hf
 injection hv with hv;subst hv
 rw[List.all_eq_true]at hf
 have e1:first=#[]:=Array.eq_empty_of_size_eq_zero h0
 subst e1
 have h2:=Cr hn hR hd hf
 refine⟨.func (.func f) #[] (captured.toList.map act.eval).toArray,?_,.one (.one (.fn (hn f k hk) h2))⟩
 simp[execOp,ho,Instr.makeFunc,← Array.toList_map]
theorem BH {x:Operand}{i:Nat}{d:bA}(ho:o.op = .extract x i)(hd:cd num x=some d)(hv:a8 env (.extract d i)=some v):iO φ P X o act v:=by
 have h1:=hR.ev hn hd
 simp only[a8]at hv
 split at hv
 ·rename_i vs he
  rw[he]at h1
  obtain⟨ws,e1,h2⟩:=h1.tups
  obtain⟨w,h3,h4⟩:=h2.get hv
  exact⟨w,by simp[execOp,ho,e1,Instr.extract,h3],.one h4⟩
 ·cases hv
theorem yn {t:TypeId}{x:Operand}{i:Nat}{d:bA}{fs:Array Field}{f:Field}{sz:Nat}(ho:o.op = .fieldAddr t x i)(ht:P.underlying t=some (.struct fs))(hf:fs[i]?=some f)(hs:szT P f.type=some sz)(h0:sz≠0)
  (hd:cd num x=some d) (hv:a8 env (.fieldAddr f.offset d)=some v):iO φ P X o act v:=by
 have h1:=hR.ev hn hd
 simp only[a8]at hv
 simp only[szT,Option.map_eq_some_iff]at hs
 obtain⟨info,hi,hsz⟩:=hs
 have hrun:∀ a,act.eval x = .pointer (some a)→(execOp act.eval o).run P X.w = .ok (.value (.pointer (some (a.add f.offset)))) X.w:=fun a ha=>by
  simp[execOp,ho,ha,Instr.fieldAt,underlying,ht,hf,Instr.sureAddr,fieldPlace,sizeOf,typeInfo,hi,hsz,h0]
 split at hv
 ·rename_i id g off he
  injection hv with hv;subst hv
  rw[he]at h1
  have h2:=h1.vc rfl
  generalize hx:act.eval x=y at h2
  cases h2 with
  | ptr hid hg =>
   refine⟨_,hrun _ hx,.one (.one (.ptr hid fun g' cs' e=>?_))⟩
   obtain⟨l,q⟩:=hg g' cs' e
   refine⟨l,fun hgg=>?_⟩
   obtain⟨B,base,k1,rfl⟩:=q hgg
   refine⟨B,base,k1,?_⟩
   unfold Addr.add
   split
   ·simp[*]
   ·simp[Nat.add_assoc]
 ·rename_i cs he
  split at hv
  ·rename_i hl
   injection hv with hv;subst hv
   rw[he]at h1
   have h2:=h1.vc rfl
   generalize hx:act.eval x=y at h2
   cases h2 with
   | rp hr hc =>
    refine⟨_,hrun _ hx,.one (.one (.rp (vs:=List.drop f.offset _) ?_ (hc.drop _)))⟩
    obtain⟨r1,r2,r3,r4⟩:=hr
    unfold Addr.add
    split
    ·rename_i h0;rw[h0];exact⟨r1,r2,r3,by simpa using r4⟩
    ·refine⟨rfl,r2,r3,fun j v hj=>?_⟩
     simp only[List.getElem?_drop]at hj
     rw[Nat.add_assoc]
     exact r4 _ _ hj
  ·cases hv
 ·cases hv
theorem Hm {t:TypeId}{x:Operand}{i:Nat}{d:bA}{fs:Array Field}{f:Field}{sz:Nat}{ag:Bool}(ho:o.op = .field t x i)(ht:P.underlying t=some (.struct fs))(hf:fs[i]?=some f)(ha:r6 P f.type=some ag)(hs:szT P f.type=some sz)
  (hd:cd num x=some d) (hv:a8 env (.field f.offset (if ag then sz else 1) ag d)=some v):iO φ P X o act v:=by
 have h1:=hR.ev hn hd
 simp only[a8]at hv
 generalize hm:(if ag then sz else 1)=m at hv
 split at hv
 ·rename_i cs he
  split at hv
  ·rename_i hl
   injection hv with hv;subst hv
   subst hm
   rw[he]at h1
   obtain⟨vs,e1,h2⟩:=h1.agg
   obtain⟨v',h3,h4⟩:=Cp (P:=P) ha hs h2 hl
   exact⟨v',by simp[execOp,ho,e1,Instr.field,underlying,ht,hf,asAgg,h3],h4⟩
  ·cases hv
 ·cases hv
theorem yj {t e:TypeId}{x i:Operand}{d di:bA}{sz:Nat}(ho:o.op = .indexAddr t x i)(ht:P.underlying t=some (.slice e))(hs:szT P e=some sz)(h0:sz≠0)(hd:cd num x=some d)(hdi:cd num i=some di)
  (hv:a8 env (.indexAddr sz d di)=some v):iO φ P X o act v:=by
 have h1:=hR.ev hn hd
 have h1i:=hR.ev hn hdi
 simp only[szT,Option.map_eq_some_iff]at hs
 obtain⟨info,hi,hsz⟩:=hs
 have hrun:∀ a len cap k j,act.eval x = .slice (some a) len cap→act.eval i = .int k j→0≤j→j<len→(execOp act.eval o).run P X.w = .ok (.value (.pointer (some (a.add (j.toNat*sz))))) X.w:=fun a len cap k j ha hj hj0 hj1=>by
  simp[execOp,ho,ha,hj,Instr.indexAt,asIntOf,underlying,ht,hj0,hj1,sizeOf,typeInfo,hi,hsz]
 simp only[a8]at hv
 split at hv
 ·rename_i m cs full k j he hj
  split at hv
  ·rename_i hb
   injection hv with hv;subst hv
   rw[he]at h1
   rw[hj]at h1i
   have h2:=h1.vc rfl
   generalize hx:act.eval x=y at h2
   cases h2 with
   | rd hr hc hnc hf =>
    rename_i a cap vs
    obtain⟨a0,rfl,r1,r2,r3,r4⟩:=hr (.inl Ll)
    refine⟨_,hrun _ _ _ _ _ hx h1i.int hb.1 hb.2,.one (.one (.rp (vs:=(vs.drop (j.toNat*sz)).take sz) ?_ ((hc.drop _).take _)))⟩
    rw[Addr.add_plain _ r1]
    refine⟨rfl,r2,r3,fun q w hq=>?_⟩
    have hlt:q<sz:=by
     have:=(List.getElem?_eq_some_iff.1 hq).1
     simp at this;omega
    rw[List.getElem?_take_of_lt hlt,List.getElem?_drop]at hq
    rw[Nat.add_assoc]
    exact r4 _ _ hq
  ·cases hv
 ·rename_i id g e2 off len lim k j he hj
  split at hv
  ·rename_i hb
   injection hv with hv;subst hv
   rw[he]at h1
   rw[hj]at h1i
   have h2:=h1.vc rfl
   generalize hx:act.eval x=y at h2
   obtain⟨rfl,hb0,hb1⟩:=hb
   cases h2 with
   | own hid hl ha hg =>
    rename_i a cap
    obtain⟨a0,rfl⟩:=ha Ll
    refine⟨_,hrun _ _ _ _ _ hx h1i.int hb0 hb1,.one (.one (.ptr hid fun g' cs' e=>?_))⟩
    obtain⟨l,q⟩:=hg g' cs' e
    refine⟨l,fun hgg=>?_⟩
    obtain⟨B,base,C,T,k1,k2,k3,_⟩:=q hgg
    injection k3 Ll with k3
    subst k3
    refine⟨B,base,k1,?_⟩
    rw[Addr.add_plain _ rfl]
    simp[Nat.add_mul,Nat.add_assoc]
  ·cases hv
 ·cases hv
theorem vG {t e:TypeId}{x i:Operand}{d di:bA}{sz m:Nat}(ho:o.op = .indexAddr t x i)(ht:P.underlying t=some (.array m e))(hs:szT P e=some sz)(h0:sz≠0)(hd:cd num x=some d)(hdi:cd num i=some di)
  (hv:a8 env (.indexAddrA m sz d di)=some v):iO φ P X o act v:=by
 have h1:=hR.ev hn hd
 have h1i:=hR.ev hn hdi
 simp only[szT,Option.map_eq_some_iff]at hs
 obtain⟨info,hi,hsz⟩:=hs
 have hrun:∀ a k j,act.eval x = .pointer (some a)→act.eval i = .int k j→0≤j→j<m→(execOp act.eval o).run P X.w = .ok (.value (.pointer (some (a.add (j.toNat*sz))))) X.w:=fun a k j ha hj hj0 hj1=>by
  simp[execOp,ho,ha,hj,Instr.indexAt,Instr.sureAddr,asIntOf,underlying,ht,hj0,hj1,sizeOf,typeInfo,hi,hsz]
 simp only[a8]at hv
 split at hv
 ·rename_i id g off k j he hj
  split at hv
  ·rename_i hb
   injection hv with hv;subst hv
   rw[he]at h1
   rw[hj]at h1i
   have h2:=h1.vc rfl
   generalize hx:act.eval x=y at h2
   cases h2 with
   | ptr hid hg =>
    rename_i a
    refine⟨_,hrun _ _ _ hx h1i.int hb.1 hb.2,.one (.one (.ptr hid fun g' cs' e=>?_))⟩
    obtain⟨l,q⟩:=hg g' cs' e
    refine⟨l,fun hgg=>?_⟩
    obtain⟨B,base,k1,rfl⟩:=q hgg
    exact⟨B,base,k1,by rw[Addr.add_plain _ rfl];simp[Nat.add_assoc]⟩
  ·cases hv
 ·rename_i cs k j he hj
  split at hv
  ·rename_i hb
   injection hv with hv;subst hv
   rw[he]at h1
   rw[hj]at h1i
   have h2:=h1.vc rfl
   generalize hx:act.eval x=y at h2
   cases h2 with
   | rp hr hc =>
    rename_i a vs
    obtain⟨r1,r2,r3,r4⟩:=hr
    refine⟨_,hrun _ _ _ hx h1i.int hb.1 hb.2.1,.one (.one (.rp (vs:=vs.drop (j.toNat*sz)) ?_ (hc.drop _)))⟩
    rw[Addr.add_plain _ r1]
    refine⟨rfl,r2,r3,fun q w hq=>?_⟩
    rw[List.getElem?_drop]at hq
    rw[Nat.add_assoc]
    exact r4 _ _ hq
  ·cases hv
 ·cases hv
theorem Fp {t e:TypeId}{x i:Operand}{d di:bA}{sz m:Nat}{ag:Bool}(ho:o.op = .index t x i)(ht:P.underlying t=some (.array m e))(ha:r6 P e=some ag)(hs:szT P e=some sz)(h0:¬ (ag=false∧sz≠1))(hd:cd num x=some d)(hdi:cd num i=some di)
  (hv:a8 env (.indexA m sz ag d di)=some v):iO φ P X o act v:=by
 have h1:=hR.ev hn hd
 have h1i:=hR.ev hn hdi
 have hs':=hs
 simp only[szT,Option.map_eq_some_iff]at hs
 obtain⟨info,hi,hsz⟩:=hs
 simp only[a8]at hv
 split at hv
 ·rename_i cs k j he hj
  split at hv
  ·rename_i hb
   injection hv with hv;subst hv
   rw[he]at h1
   rw[hj]at h1i
   obtain⟨vs,e1,h2⟩:=h1.agg
   have hsz1:(if ag then sz else 1)=sz:=by cases ag<;>simp_all
   obtain⟨v',h3,h4⟩:=Cp (P:=P) (off:=j.toNat*sz) ha hs' h2 (by rw[hsz1];omega)
   rw[hsz1]at h4
   exact⟨v',by simp[execOp,ho,e1,h1i.int,Instr.index,asIntOf,underlying,ht,hb.1,hb.2.1,sizeOf,typeInfo,hi,hsz,h3],h4⟩
  ·cases hv
 ·cases hv
theorem z3 {t:TypeId}{x i:Operand}{d di:bA}(ho:o.op = .index t x i)(ht:P.underlying t=some .string)(hd:cd num x=some d)(hdi:cd num i=some di)
  (hv:a8 env (.indexStr d di)=some v):iO φ P X o act v:=by
 have h1:=hR.ev hn hd
 have h1i:=hR.ev hn hdi
 simp only[a8]at hv
 split at hv
 ·rename_i s k j he hj
  split at hv
  ·rename_i hb
   injection hv with hv;subst hv
   rw[he]at h1
   rw[hj]at h1i
   have hlt:j.toNat<s.length:=by omega
   have hg:(⟨s.toArray⟩:ByteArray)[j.toNat]?=some (s.getD j.toNat 0):=by
    rw[List.getD_eq_getElem?_getD,List.getElem?_eq_getElem hlt,Option.getD_some]
    rw[getElem?_pos (⟨s.toArray⟩:ByteArray) j.toNat (by simpa[ByteArray.size] using hlt)]
    rfl
   exact⟨_,by simp[execOp,ho,h1.str,h1i.int,Instr.index,asIntOf,underlying,ht,hb.1,hg],.one (.one (.int _ _))⟩
  ·cases hv
 ·cases hv
end
end
section
open Go
section
variable {φ:Phi} {num:FuncId→Option Nat} {P:Program} {X:Ctx} {n bs:Nat} {env:Env} {act:Act} {o:Oper} {v:AV}
theorem lj (w:World)(b:Bool)(len cap:Nat)(lo hi mx:Option Value)(l r m:Nat)(hl:(lo=none∧l=0)∨∃ k,lo=some (.int k l))(hr:(hi=none∧mx=none∧r=len)∨∃ k,hi=some (.int k r))(hm:(mx=none∧m=cap)∨∃ k,mx=some (.int k m))
  (h1:l≤r) (h2:r≤m) (h3:m≤cap):(Instr.sliceBounds b len cap lo hi mx).run P w = .ok (l,r,m) w:=by
 have hb:∀ (k:IntKind) (i y:Nat) (c:BoundsCode),i≤y→(Instr.sliceBound (.int k i) y c).run P w = .ok i w:=fun k i y c hi=>by
  have:=run_sliceBound (P:=P) w k (i:Int) y c Ll Ll
  simpa using this
 rcases hm with⟨rfl,rfl⟩|⟨km,rfl⟩<;>rcases hr with⟨rfl,hmx,rfl⟩|⟨kr,rfl⟩<;>rcases hl with⟨rfl,rfl⟩|⟨kl,rfl⟩
 all_goals first
  | (cases hmx;done)
  | (simp[Instr.sliceBounds,hb,h1,h2,h3,Nat.le_trans h2 h3])
variable (hn:∀ f k,num f=some k→φ k=some f) (hR:Rel φ n bs X env act)
include hn hR
theorem qa {lo:Option Operand}{d:Option bA}{dflt z:Int}(h:nW num lo=some d)(hz:eY env dflt d=some z):(lo=none∧d=none∧z=dflt)∨∃ y e k,lo=some y∧d=some e∧act.eval y = .int k z:=by
 cases lo with
 | none =>
  simp[nW]at h;subst h
  simp[eY]at hz
  exact .inl ⟨rfl,rfl,hz.symm⟩
 | some y =>
  simp only[nW,Option.map_eq_some_iff]at h
  obtain⟨e,he,rfl⟩:=h
  simp only[eY]at hz
  split at hz
  ·rename_i k m hm
   injection hz with hz;subst hz
   have:=hR.ev hn he
   rw[hm]at this
   exact .inr ⟨y,e,k,rfl,rfl,this.int⟩
  ·cases hz
theorem Gf {t e:TypeId}{x:Operand}{lo hi mx:Option Operand}{d:bA}{dlo dhi dmx:Option bA}{sz:Nat}(ho:o.op = .slice t x lo hi mx)(ht:P.underlying t=some (.slice e))(hs:szT P e=some sz)
    (hd:cd num x=some d) (hlo:nW num lo=some dlo) (hhi:nW num hi=some dhi) (hmx:nW num mx=some dmx) (hok:¬ (dmx.isSome&&dhi.isNone)=true)
    (hv:a8 env (.slice sz d dlo dhi dmx)=some v):iO φ P X o act v:=by
  have h1:=hR.ev hn hd
  simp only[szT,Option.map_eq_some_iff]at hs
  obtain⟨info,hinfo,hsz⟩:=hs
  have hrun:∀ a len cap (l r m:Nat),act.eval x = .slice a len cap→(Instr.sliceBounds true len cap (lo.map act.eval) (hi.map act.eval) (mx.map act.eval)).run P X.w = .ok (l,r,m) X.w →
      (execOp act.eval o).run P X.w = .ok (.value (.slice (if m=l then a else a.map (·.add (l*sz))) (r-l) (m-l))) X.w:=fun a len cap l r m ha hb=>by
    simp[execOp,ho,ha,Instr.sliceAt,Instr.slice,underlying,ht,sizeOf,typeInfo,hinfo,hsz,hb]
  -- the bounds
  have hbd:∀ a len cap (l r:Int) (m:Int),act.eval x = .slice a len cap→len≤cap→eY env 0 dlo=some l→eY env len dhi=some r→eY env r dmx=some m→0≤l→l≤r→r≤len→m=r →
      ∃ mm:Nat,(execOp act.eval o).run P X.w = .ok (.value (.slice (if mm=l.toNat then a else a.map (·.add (l.toNat*sz))) (r-l).toNat (mm-l.toNat))) X.w∧r.toNat≤mm∧(if dmx.isSome then mm=r.toNat else mm=cap):=fun a len cap l r m ha hlc e1 e2 e3 h0 h01 h02 hmr=>by
    have o1:=qa hn hR hlo e1
    have o2:=qa hn hR hhi e2
    have o3:=qa hn hR hmx e3
    refine⟨if dmx.isSome then r.toNat else cap,?_,by split<;>omega,by split<;>simp_all⟩
    have hb:=lj (P:=P) X.w true len cap (lo.map act.eval) (hi.map act.eval) (mx.map act.eval) l.toNat r.toNat (if dmx.isSome then r.toNat else cap)
      (by
        rcases o1 with⟨rfl,_,rfl⟩|⟨y,_,k,rfl,_,hy⟩
        · exact .inl ⟨rfl,rfl⟩
        · exact .inr ⟨k,by simp[hy];omega⟩)
      (by
        rcases o2 with⟨rfl,rfl,rfl⟩|⟨y,_,k,rfl,_,hy⟩
        · refine .inl ⟨rfl,?_,by simp⟩
          cases mx with
          | none=>rfl
          | some _ =>
            simp only[nW,Option.map_eq_some_iff]at hmx
            obtain⟨_,_,rfl⟩:=hmx
            simp at hok
        · exact .inr ⟨k,by simp[hy];omega⟩)
      (by
        rcases o3 with⟨rfl,rfl,rfl⟩|⟨y,e,k,rfl,rfl,hy⟩
        · exact .inl ⟨rfl,by simp⟩
        · exact .inr ⟨k,by simp[hy];omega⟩)
      Ll (by split<;>omega) (by split<;>omega)
    have:=hrun a len cap _ _ _ ha hb
    rw[this]
    congr 4
    omega
  simp only[a8]at hv
  split at hv
  · rename_i m cs full he
    simp only[Option.bind_eq_some_iff]at hv
    obtain⟨l,e1,r,e2,mm,e3,hv⟩:=hv
    split at hv
    · rename_i hc
      obtain⟨c1,c2,c3,c4,c5⟩:=hc
      injection hv with hv;subst hv
      rw[he]at h1
      have h2:=h1.vc rfl
      generalize hx:act.eval x=y at h2
      cases h2 with
      | rd hr hcs hnc hf =>
        rename_i a cap vs
        obtain⟨q,hq,hq1,hq2⟩:=hbd _ _ _ l r mm hx hnc e1 e2 e3 c1 c2 c3 c4
        refine⟨_,hq,.one (.one ?_)⟩
        refine VC.rd (vs:=(vs.drop (l.toNat*sz)).take ((r-l).toNat*sz)) ?_ ((hcs.drop _).take _) Ll ?_
        · intro hne
          have hlen:=hcs.length
          have hrl:l<r:=by
            rcases hne with h|h
            · omega
            · rcases Int.lt_or_le l r with h'|h'
              · exact h'
              · exact absurd (by rw[show(r-l).toNat=0 by omega];simp) h
          obtain⟨a0,rfl,r1,r2,r3,r4⟩:=hr (.inl Ll)
          rw[if_neg Ll]
          refine⟨_,rfl,?_⟩
          show ROk X (a0.add (l.toNat*sz)) _
          rw[Addr.add_plain _ r1]
          refine⟨rfl,r2,r3,fun j w hj=>?_⟩
          have hlt:j<(r-l).toNat*sz:=by
            have:=(List.getElem?_eq_some_iff.1 hj).1
            simp at this;omega
          rw[List.getElem?_take_of_lt hlt,List.getElem?_drop]at hj
          rw[Nat.add_assoc]
          exact r4 _ _ hj
        · intro hfull
          simp only[Bool.or_eq_true,Bool.and_eq_true,decide_eq_true_eq]at hfull
          rcases hfull with h|⟨h,h'⟩
          · rw[if_pos h]at hq2;omega
          · have:=hf h
            split at hq2<;>omega
    · cases hv
  · rename_i id g e2 off len lim he
    simp only[Option.bind_eq_some_iff]at hv
    obtain⟨l,e1,r,e2',mm,e3,hv⟩:=hv
    split at hv
    · rename_i hc
      obtain⟨c1,c2,c3,c4,rfl⟩:=hc
      injection hv with hv;subst hv
      rw[he]at h1
      have h2:=h1.vc rfl
      generalize hx:act.eval x=y at h2
      cases h2 with
      | own hid hlc ha hg =>
        rename_i a cap
        obtain⟨q,hq,hq1,hq2⟩:=hbd _ _ _ l r mm hx hlc e1 e2' e3 c1 c2 c3 c4
        refine⟨_,hq,.one (.one ?_)⟩
        have hqc:q≤cap:=by split at hq2<;>omega
        refine VC.own hid Ll ?_ fun g' cs' e=>?_
        · intro hlt
          obtain⟨a0,rfl⟩:=ha Ll
          rw[if_neg Ll]
          exact⟨_,rfl⟩
        · obtain⟨k0,kq⟩:=hg g' cs' e
          refine⟨k0,fun hgg=>?_⟩
          obtain⟨B,base,C,T,k1,k2,k3,k4,k5⟩:=kq hgg
          refine⟨B,base,C,T,k1,k2,?_,?_,?_⟩
          · intro hlt
            rw[if_neg Ll,k3 Ll]
            simp only[Option.map_some]
            rw[Addr.add_plain _ rfl]
            simp[Nat.add_mul,Nat.add_assoc]
          · have:off+l.toNat+(q-l.toNat)≤off+cap:=by omega
            have:=Nat.mul_le_mul_right e2 this
            omega
          · by_cases hms:dmx.isSome=true
            · rw[if_pos hms]at hq2
              rw[if_pos hms]
              simp only
              omega
            · rw[if_neg hms]at hq2
              rw[if_neg hms]
              cases lim with
              | none =>
                simp only[Option.map_none]at k5 ⊢
                rw[show off+l.toNat+(q-l.toNat)=off+cap by omega]
                exact k5
              | some c =>
                simp only[Option.map_some]at k5 ⊢
                omega
    · cases hv
  · cases hv
theorem zh {t:TypeId}{x:Operand}{lo hi mx:Option Operand}{d:bA}{dlo dhi:Option bA}(ho:o.op = .slice t x lo hi mx)(hmx:¬ mx.isSome=true)(ht:P.underlying t=some .string)
  (hd:cd num x=some d) (hlo:nW num lo=some dlo) (hhi:nW num hi=some dhi)
  (hv:a8 env (.sliceStr d dlo dhi)=some v):iO φ P X o act v:=by
 have h1:=hR.ev hn hd
 cases mx with
 | some _=>simp at hmx
 | none =>
 simp only[a8]at hv
 split at hv
 ·rename_i s he
  simp only[Option.bind_eq_some_iff]at hv
  obtain⟨l,e1,r,e2,hv⟩:=hv
  split at hv
  ·rename_i hc
   obtain⟨c1,c2,c3⟩:=hc
   injection hv with hv;subst hv
   rw[he]at h1
   have es:=h1.str
   have o1:=qa hn hR hlo e1
   have o2:=qa hn hR hhi e2
   have hsz:(⟨s.toArray⟩:ByteArray).size=s.length:=by simp[ByteArray.size]
   have hb:=lj (P:=P) X.w false s.length s.length (lo.map act.eval) (hi.map act.eval) none l.toNat r.toNat s.length
    (by
     rcases o1 with⟨rfl,_,rfl⟩|⟨y,_,k,rfl,_,hy⟩
     ·exact .inl ⟨rfl,rfl⟩
     ·exact .inr ⟨k,by simp[hy];omega⟩)
    (by
     rcases o2 with⟨rfl,_,rfl⟩|⟨y,_,k,rfl,_,hy⟩
     ·exact .inl ⟨rfl,rfl,by simp⟩
     ·exact .inr ⟨k,by simp[hy];omega⟩)
    (.inl ⟨rfl,rfl⟩) Ll Ll Ll
   refine⟨.string ⟨((s.drop l.toNat).take (r-l).toNat).toArray⟩,?_,.one (.one (.str _))⟩
   have hex:(⟨s.toArray⟩:ByteArray).extract l.toNat r.toNat=⟨((s.drop l.toNat).take (r-l).toNat).toArray⟩:=by
    apply ByteArray.ext
    rw[ByteArray.data_extract]
    apply Array.toList_inj.1
    simp[List.extract_eq_take_drop]
    congr 1
    omega
   simp[execOp,ho,es,Instr.sliceAt,Instr.slice,underlying,ht,hsz,hb,hex]
  ·cases hv
 ·cases hv
theorem EW {fs:List Field}:∀ {pl:List (Nat×Nat)},o8 P fs=some pl→fs.mapM (fun f=>(P.info? f.type).map fun i=>(f.offset,i.size))=some pl:=by
 induction fs with
 | nil=>intro pl h;simp[o8]at h;subst h;rfl
 | cons f fs ih =>
  intro pl h
  simp only[o8,szT,Option.bind_eq_some_iff,Option.map_eq_some_iff]at h
  obtain⟨m,⟨i,hi,rfl⟩,qs,hq,rfl⟩:=h
  rw[List.mapM_cons]
  simp[hi,ih hq]
theorem mQ {t:TypeId}{zs:List AV}(h:ml num P t=some zs):∃ i z,P.info? t=some i∧i.zero=some z∧VCs φ X zs z.cells.toList:=by
 unfold ml at h
 simp only[Option.bind_eq_some_iff]at h
 obtain⟨i,hi,z,hz,hc⟩:=h
 exact⟨i,z,hi,hz,uR hn hc⟩
theorem Aq {t:TypeId}{parts:Array (Nat×Operand)}{zs:List AV}{place:Nat→Option (Nat×Nat)}{ps:List (Nat×Nat×bA)}(ho:o.op = .build t parts)(hz:ml num P t=some zs)
  (hbuilt:∀ i z C,P.info? t=some i→i.zero=some z→Instr.fill place z.cells (parts.toList.map fun p=>(p.1,act.eval p.2))=some C→P.built t (parts.toList.map fun p=>(p.1,act.eval p.2))=some C)
  (hp:nL num place parts.toList=some ps) (hv:a8 env (.build zs ps)=some v):iO φ P X o act v:=by
 simp only[a8,Option.map_eq_some_iff]at hv
 obtain⟨cs,hf,rfl⟩:=hv
 obtain⟨i,z,hi,hz1,hz2⟩:=mQ (φ:=φ) (X:=X) hn hR hz
 obtain⟨C,h1,h2⟩:=ym hn hR hp hz2 hf
 refine⟨.agg C,?_,.one (.agg (vs:=C.toList) h2)⟩
 have hrun:=run_build (P:=P) X.w t (parts.map fun p=>(p.1,act.eval p.2)) C (by
  rw[Array.toList_map]
  exact hbuilt i z C hi hz1 h1)
 simp[execOp,ho,hrun]
theorem yA {t:TypeId}{fs:Array Field}{pl:List (Nat×Nat)}(ht:P.underlying t=some (.struct fs))(hpl:o8 P fs.toList=some pl){parts:List (Nat×Value)}{i:TypeInfo}{z:Value}{C:Array Value}
  (hi:P.info? t=some i) (hz:i.zero=some z) (hf:Instr.fill (pl[·]?) z.cells parts=some C):P.built t parts=some C:=by
 unfold Program.built
 simp only[hi,hz,ht,EW hn hR hpl]
 rw[← hf,show(fun x=>pl.toArray[x]?)=fun(x:Nat)=>pl[x]? from funext fun x=>by simp]
theorem Ap {t e:TypeId}{m sz:Nat}(ht:P.underlying t=some (.array m e))(hs:szT P e=some sz){parts:List (Nat×Value)}{i:TypeInfo}{z:Value}{C:Array Value}
  (hi:P.info? t=some i) (hz:i.zero=some z) (hf:Instr.fill (fun i=>some (i*sz,sz)) z.cells parts=some C):P.built t parts=some C:=by
 simp only[szT,Option.map_eq_some_iff]at hs
 obtain⟨ie,hie,rfl⟩:=hs
 unfold Program.built
 simp only[hi,hz,ht,hie]
 rw[← hf]
theorem o6 (z:Array Value)(hz:0<z.size):∀ m:Nat,((Array.range (m*z.size)).map (fun i=>z[i%z.size]!)).toList=(List.replicate m z.toList).flatten
 | 0=>by simp
 | m+1=>by
  have ih:=o6 z hz m
  apply List.ext_getElem?
  intro j
  have hl:((List.replicate m z.toList).flatten).length=m*z.size:=by simp
  rw[List.replicate_succ',List.flatten_append]
  simp only[List.flatten_cons,List.flatten_nil,List.append_nil]
  by_cases hj:j<m*z.size
  ·rw[List.getElem?_append_left Ll,← ih]
   have h2:j<(m+1)*z.size:=by rw[Nat.add_mul];omega
   simp[hj,h2]
  ·rw[List.getElem?_append_right Ll,hl]
   by_cases h2:j<(m+1)*z.size
   ·have h3:j-m*z.size<z.size:=by rw[Nat.add_mul]at h2;omega
    have h4:j%z.size=j-m*z.size:=by
     have:j=(j-m*z.size)+m*z.size:=by omega
     rw[this,Nat.add_mul_mod_self_right,Nat.mod_eq_of_lt h3]
     omega
    simp[h2,h4,h3]
   ·have h3:¬ j-m*z.size<z.size:=by rw[Nat.add_mul]at h2;omega
    simp[h2,h3]
theorem bE.garbage (hX:bE φ X)(C:Array Value)(T:TypeId):Le X { X with w:=X.w.alloc (.cells C T) }∧bE φ { X with w:=X.w.alloc (.cells C T) }:=by
 exact hX.grow Lm (fun B hB=>heap_alloc_old _ _ hB) rfl rfl
theorem BZ (w:World)(C:Array Value)(T:TypeId)(j:Nat):(w.alloc (.cells C T)).cell? ⟨w.heap.size,j,none⟩=C[j]?:=by simp
theorem BB (hX:bE φ X){C:Array Value}{T:TypeId}{cs:List AV}{m:Nat}(hc:VCs φ X cs C.toList) :
  VC φ { X with w:=X.w.alloc (.cells C T) } (.rd m cs true) (.slice (some ⟨X.w.heap.size,0,none⟩) m m):=by
 obtain⟨hle,hok⟩:=bE.garbage hn hR hX C T
 refine .rd (vs:=C.toList) (fun _=>⟨_,rfl,rfl,by simp,?_,?_⟩) (hc.le hle) (Nat.le_refl _) (fun _=>rfl)
 ·rintro(h|⟨id,base,h⟩)
  ·exact absurd (hX.mine _ h) (Nat.lt_irrefl _)
  ·exact absurd (hX.dom _ _ _ h).1 (Nat.lt_irrefl _)
 ·intro j v hj
  simp only[Nat.zero_add]
  rw[BZ hn hR]
  simpa using hj
theorem JQ {t e:TypeId}{parts:Array (Nat×Operand)}{len sz:Nat}{z:List AV}{ps:List (Nat×Nat×bA)}(ho:o.op = .buildSlice t len parts)(ht:P.underlying t=some (.slice e))(hs:szT P e=some sz)(hz:ml num P e=some z)
  (hc:z.length=sz∧0<sz∧len*sz≤2 ^ 20) (hp:nL num (fun i=>some (i*sz,sz)) parts.toList=some ps) (hv:a8 env (.lit sz len (List.replicate len z).flatten ps)=some v) :
  ∃ v' C,(execOp act.eval o).run P X.w = .ok (.value v') (X.w.alloc (.cells C e))∧VT φ { X with w:=X.w.alloc (.cells C e) } v v':=by
 simp only[a8,Option.bind_eq_some_iff]at hv
 obtain⟨cs,hf,hv⟩:=hv
 split at hv
 ·rename_i hlen
  injection hv with hv;subst hv
  obtain⟨i,z0,hi,hz1,hz2⟩:=mQ (φ:=φ) (X:=X) hn hR hz
  obtain⟨c1,c2,c3⟩:=hc
  have hzl:=hz2.length
  have hzs:z0.cells.size=sz:=by simp at hzl;omega
  simp only[szT,hi,Option.map_some,Option.some.injEq]at hs
  have hinit:VCs φ X (List.replicate len z).flatten ((Array.range (len*sz)).map (fun i=>z0.cells[i%z0.cells.size]!)).toList:=by
   rw[← hzs,o6 hn hR _ Ll]
   exact hz2.replicate len
  obtain⟨C,h1,h2⟩:=ym hn hR hp hinit hf
  refine⟨.slice (some ⟨X.w.heap.size,0,none⟩) len len,C,?_,.one (.one (BB hn hR hR.heap h2))⟩
  by_cases h0:len*sz=0
  ·have hl0:len=0:=by
    rcases Nat.mul_eq_zero.1 h0 with h|h<;>omega
   subst hl0
   rw[Nat.zero_mul,show Array.range 0=#[] from rfl,Array.map_empty]at h1
   simp[execOp,ho,Instr.buildSlice,underlying,ht,sizeOf,typeInfo,hi,hs,newRow,show Array.range 0=#[] from rfl,h1]
  ·have hnot:¬ len*sz>16777216:=by
    have:(2:Nat) ^ 20=1048576:=by decide
    omega
   simp[execOp,ho,Instr.buildSlice,underlying,ht,sizeOf,typeInfo,zeroValue,hi,hs,hz1,newRow,h0,hnot,h1]
 ·cases hv
theorem KH {c:Call}{x y:Operand}{d e:bA}(ho:o.op = .call c)(hc:c.callee = .builtin .max)(ha:c.args.toList=[x,y])(hd:cd num x=some d)(he:cd num y=some e)(hv:a8 env (.mx [d,e])=some v):iO φ P X o act v:=by
 have h1:=hR.ev hn hd
 have h2:=hR.ev hn he
 have ha':c.args=#[x,y]:=Array.toList_inj.1 (by simpa using ha)
 simp only[a8,List.map_cons,List.map_nil]at hv
 generalize ev env d=a at *
 generalize ev env e=b at *
 unfold ju at hv
 split at hv
 ·rename_i h;cases h
 ·rename_i k a' k' b' r h
  cases h
  simp only[ju]at hv
  injection hv with hv;subst hv
  refine⟨.int k (if b'>a' then b' else a'),?_,.one (.one (.int _ _))⟩
  simp[execOp,ho,resolve,hc,ha',h1.int,h2.int,invoke,builtin,run_max_int2]
 ·cases hv
theorem KI {c:Call}{x y:Operand}{d e:bA}(ho:o.op = .call c)(hc:c.callee = .builtin .min)(ha:c.args.toList=[x,y])(hd:cd num x=some d)(he:cd num y=some e)(hv:a8 env (.mn [d,e])=some v):iO φ P X o act v:=by
 have h1:=hR.ev hn hd
 have h2:=hR.ev hn he
 have ha':c.args=#[x,y]:=Array.toList_inj.1 (by simpa using ha)
 simp only[a8,List.map_cons,List.map_nil]at hv
 generalize ev env d=a at *
 generalize ev env e=b at *
 unfold ju at hv
 split at hv
 ·rename_i h;cases h
 ·rename_i k a' k' b' r h
  cases h
  simp only[ju]at hv
  injection hv with hv;subst hv
  refine⟨.int k (if b'<a' then b' else a'),?_,.one (.one (.int _ _))⟩
  simp[execOp,ho,resolve,hc,ha',h1.int,h2.int,invoke,builtin,run_min_int2]
 ·cases hv
end
end
end Go.Proofs.YtlnobeojgifojaaGreatDoor
