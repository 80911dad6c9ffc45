/- The abstract machine: values, heap, code, and what a piece of code comes to. -/
import GoSem.Core.Code
import GoSem.Core.View
set_option linter.unusedVariables false
namespace Go.Proofs.YtlnobeojgifojaaGreatDoor
section
open Go
theorem Ll{P:Prop}(h:P:=by omega):P:=h
theorem Lm{P:Prop}(h:P:=by simp):P:=h
inductive AV where
 | undef
 | bool (b:Bool)
 | int (k:IntKind) (n:Int)
 | str (s:List UInt8)
 | nilp
 | ptr (id gen off:Nat)
 | rp (cells:List AV)
 | rd (n:Nat) (cells:List AV) (full:Bool)
 | own (id gen esz off len:Nat) (lim:Option Nat)
 | nilm
 | map (id:Nat)
 | fn (f:Nat) (captured:List AV)
 | nilf
 | yield (id:Nat)
 | iface (t:Nat) (v:AV)
 | nili
 | agg (cells:List AV)
 | tup (vs:List AV)
instance:Inhabited AV:=⟨.undef⟩
def AV.cells:AV→List AV
 | .agg cs=>cs
 | v=>[v]
def AV.isVal:AV→Bool
 | .undef | .tup _=>false
 | _=>true
def AV.oneCell:AV→Bool
 | .undef | .agg _ | .tup _=>false
 | _=>true
def AV.isStr:AV→Bool
 | .str _=>true
 | _=>false
def AV.isTup:AV→Bool
 | .tup _=>true
 | _=>false
mutual
def AV.frozen:AV→Bool
 | .ptr .. | .own .. | .map _ | .yield _=>false
 | .rp cs | .rd _ cs _ | .agg cs | .tup cs | .fn _ cs=>AV.frozenL cs
 | .iface _ v=>v.frozen
 | _=>true
def AV.frozenL:List AV→Bool
 | []=>true
 | v::vs=>v.frozen&&AV.frozenL vs
end
abbrev Env:=Nat→AV
def Env.put (env:Env)(t:Nat)(v:AV):Env:=fun i=>if i=t then v else env i
inductive bA where
 | tmp (t:Nat)
 | const (v:AV)
def ev (env:Env):bA→AV
 | .tmp t=>env t
 | .const v=>v
inductive DOp where
 | mv (x:bA)
 | pick (c a b:bA)
 | alloc (zero:List AV)
 | box (x:bA)
 | build (zero:List AV) (parts:List (Nat×Nat×bA))
 | lit (esz len:Nat) (zero:List AV) (parts:List (Nat×Nat×bA))
 | load (bx:Bool) (n:Nat) (ag:Bool) (x:bA)
 | store (n:Nat) (x v:bA)
 | nilck (x:bA)
 | bin (op:BinOp) (x y:bA)
 | eqB (neg:Bool) (x y:bA)
 | eqS (neg:Bool) (k:Nat) (x y:bA)
 | eqN (neg:Bool) (x:bA)
 | strOf (x:bA)
 | bytesOf (x:bA)
 | un (op:UnOp) (x:bA)
 | conv (k:IntKind) (x:bA)
 | mkfn (f:Nat) (captured:List bA)
 | mkmap (kk:Option IntKind)
 | mkslice (zero:List AV) (len cap:bA)
 | slice (esz:Nat) (x:bA) (lo hi mx:Option bA)
 | sliceStr (x:bA) (lo hi:Option bA)
 | sliceA (len esz:Nat) (x:bA) (lo hi:Option bA)
 | fieldAddr (off:Nat) (x:bA)
 | field (off n:Nat) (ag:Bool) (x:bA)
 | indexAddr (esz:Nat) (x i:bA)
 | indexAddrA (len esz:Nat) (x i:bA)
 | indexA (len esz:Nat) (ag:Bool) (x i:bA)
 | indexStr (x i:bA)
 | lookup (kk:Option IntKind) (zero:AV) (ok:Bool) (x k:bA)
 | update (kk:Option IntKind) (m k v:bA)
 | extract (x:bA) (i:Nat)
 | len (k:Nat) (x:bA)
 | append (esz:Nat) (x y:bA)
 | clear (zero:List AV) (x:bA)
 | copy (esz:Nat) (x y:bA)
 | mx (xs:List bA)
 | mn (xs:List bA)
 | call (mode:Nat) (f:Nat) (args:List bA)
 | callv (mode:Nat) (x:bA) (args:List bA)
 | loadm (bx:Bool) (x:bA)
 | callk (e:Bool) (f:Nat) (args:List bA)
 | stuck
structure bK where
 dst:Option Nat
 op:DOp
 guard:Option (Nat×Bool):=none
inductive gk where
 | skip
 | ops (l:List bK)
 | seq (a b:gk)
 | cond (c:bA) (a b:gk)
 | block (id:Nat) (body:gk)
 | loop (body:gk)
 | rangef (f:bA) (ps:List Nat) (assign body:gk)
 | exit (id:Nat)
 | ret
inductive vP where
 | tmp (t:Nat)
 | cell (t n:Nat) (ag:Bool)
structure bN where
 results:List vP
 body:gk
inductive Ex where
 | norm|exit (id:Nat)|ret
inductive iQ where
 | cells (gen:Nat) (cs:List AV)
 | map (kk:Option IntKind) (es:List (AV×AV))
 | loop (st:LoopState) (pend:Option Ex) (env:Env) (ps:List Nat) (assign body:gk)
structure ad where
 get:Nat→Option iQ
 fin:∃ n,∀ i,n≤i→get i=none
def ad.empty:ad:=⟨fun _=>none,0,fun _ _=>rfl⟩
def ad.set (h:ad)(id:Nat)(o:iQ):ad :=
 ⟨fun i=>if i=id then some o else h.get i,by
  obtain⟨n,hn⟩:=h.fin
  refine⟨max n (id+1),fun i hi=>?_⟩
  have h1:i≠id:=by omega
  simp only[h1,if_false]
  exact hn i (by omega)⟩
open Classical in
noncomputable def ad.drop (h:ad)(S:Nat→Prop):ad :=
 ⟨fun i=>if S i then none else h.get i,by
  obtain⟨n,hn⟩:=h.fin
  refine⟨n,fun i hi=>?_⟩
  simp only[hn i hi,ite_self]⟩
abbrev bZ:=Nat→List AV→ad→(AV→ad→Prop)→Prop
def BT (op:BinOp)(k:IntKind)(a b:Int):Option AV :=
 match op with
 | .add=>some (.int k (k.wrap (a+b)))
 | .sub=>some (.int k (k.wrap (a-b)))
 | .mul=>some (.int k (k.wrap (a*b)))
 | .quo=>if b=0 then none else some (.int k (k.wrap (a.tdiv b)))
 | .rem=>if b=0 then none else some (.int k (a.tmod b))
 | .and=>some (.int k (k.wrap (BitVec.ofInt k.bits a &&& BitVec.ofInt k.bits b).toNat))
 | .or=>some (.int k (k.wrap (BitVec.ofInt k.bits a ||| BitVec.ofInt k.bits b).toNat))
 | .xor=>some (.int k (k.wrap (BitVec.ofInt k.bits a ^^^ BitVec.ofInt k.bits b).toNat))
 | .andNot=>some (.int k (k.wrap (BitVec.ofInt k.bits a &&& ~~~BitVec.ofInt k.bits b).toNat))
 | .eql=>some (.bool (decide (a=b)))
 | .neq=>some (.bool (!decide (a=b)))
 | .lss=>some (.bool (decide (a<b)))
 | .leq=>some (.bool (decide (a≤b)))
 | .gtr=>some (.bool (decide (b<a)))
 | .geq=>some (.bool (decide (b≤a)))
 | .shl=>none
 | .shr=>none
def G0:Nat:=2 ^ 40
def xd (op:BinOp)(x y:AV):Option AV :=
 match x,y with
 | .int k a,.int k' b =>
  match op with
  | .shl=>if b<0 then none else some (.int k (k.wrap (a*2 ^ (min b.toNat k.bits))))
  | .shr=>if b<0 then none else some (.int k (a.fdiv (2 ^ (min b.toNat k.bits))))
  | op=>if k=k' then BT op k a b else none
 | .str a,.str b =>
  match op with
  | .add=>if a.length+b.length≤G0 then some (.str (a++b)) else none
  | .eql=>some (.bool (decide (a=b)))
  | .neq=>some (.bool (!decide (a=b)))
  | _=>none
 | _,_=>none
def eqB (neg:Bool)(x y:AV):Option AV :=
 match x,y with
 | .bool a,.bool b=>some (.bool (if neg then !(a == b) else a == b))
 | _,_=>none
def j8:List AV→List AV→Option Bool
 | [],[]=>some true
 | .int k a::xs,.int k' b::ys=>if k=k' then(j8 xs ys).map fun r=>decide (a=b)&&r else none
 | _,_=>none
def eqS (neg:Bool)(k:Nat)(x y:AV):Option AV :=
 match x,y with
 | .agg xs,.agg ys=>if xs.length=k then(j8 xs ys).map fun b => .bool (if neg then !b else b) else none
 | _,_=>none
def mE:List AV→Option (List UInt8)
 | []=>some []
 | .int .u8 n::r=>(mE r).map (UInt8.ofNat n.toNat::·)
 | _=>none
def FX (op:UnOp)(x:AV):Option AV :=
 match op,x with
 | .not,.bool b=>some (.bool !b)
 | .neg,.int k n=>some (.int k (k.wrap (0-n)))
 | _,_=>none
def putCells (cs:List AV)(off:Nat)(vs:List AV):List AV :=
 match vs with
 | [v]=>cs.set off v
 | vs=>cs.take off++vs++cs.drop (off+vs.length)
def ft (env:Env):List AV→List (Nat×Nat×bA)→Option (List AV)
 | cs,[]=>some cs
 | cs,(off,n,x)::r=>if (ev env x).isVal=true∧(ev env x).cells.length=n∧off+n≤cs.length then ft env (putCells cs off (ev env x).cells) r else none
def kc:Option IntKind→AV→Bool
 | some q,.int k _=>decide (k=q)
 | none,.str _=>true
 | _,_=>false
open Classical in
noncomputable def iN (es:List (AV×AV))(k:AV):Option AV :=
 match es with
 | []=>none
 | e::es=>if e.1=k then some e.2 else iN es k
open Classical in
noncomputable def mf (es:List (AV×AV))(k v:AV):List (AV×AV) :=
 match es with
 | []=>[(k,v)]
 | e::es=>if e.1=k then(k,v)::es else e::mf es k v
def kH:Nat:=2 ^ 32
def bB (h:ad)(esz:Nat):AV→Option (Nat×List AV)
 | .rd n cs _=>if cs.length=n*esz then some (n,cs) else none
 | .own id g e off len _ =>
  match h.get id with
  | some (.cells g' cs)=>if g'=g∧e=esz∧(off+len)*esz≤cs.length then some (len,(cs.drop (off*esz)).take (len*esz)) else none
  | _=>none
 | .str s=>if esz=1 then some (s.length,s.map fun b => .int .u8 b.toNat) else none
 | _=>none
def eY (env:Env)(d:Int):Option bA→Option Int
 | none=>some d
 | some x=>match ev env x with
  | .int _ n=>some n
  | _=>none
def ju (f:Int→Int→Int):List AV→Option AV
 | [.int k n]=>some (.int k n)
 | .int k a :: .int _ b::r=>ju f (.int k (f a b)::r)
 | _=>none
termination_by l=>l.length
def ad.Ext (h h':ad):Prop:=∀ id o,h.get id=some o→h'.get id=some o
def fU:Nat:=0
mutual
inductive FzV (h:ad) (S:Nat→Prop):AV→AV→Prop
 | same (v:AV):FzV h S v v
 | own {id g esz off len lim cs cs'}:S id→h.get id=some (.cells g cs)→(off+len)*esz≤cs.length→FzL h S ((cs.drop (off*esz)).take (len*esz)) cs'→FzV h S (.own id g esz off len lim) (.rd len cs' false)
 | ptr {id g off cs cs'}:S id→h.get id=some (.cells g cs)→off≤cs.length→FzL h S (cs.drop off) cs'→FzV h S (.ptr id g off) (.rp cs')
 | rd {n cs cs' full full'}:FzL h S cs cs'→(full'=true→full=true)→FzV h S (.rd n cs full) (.rd n cs' full')
 | rp {cs cs'}:FzL h S cs cs'→FzV h S (.rp cs) (.rp cs')
 | agg {cs cs'}:FzL h S cs cs'→FzV h S (.agg cs) (.agg cs')
 | tup {cs cs'}:FzL h S cs cs'→FzV h S (.tup cs) (.tup cs')
 | fn {f cs cs'}:FzL h S cs cs'→FzV h S (.fn f cs) (.fn f cs')
 | iface {t v v'}:FzV h S v v'→FzV h S (.iface t v) (.iface t v')
inductive FzL (h:ad) (S:Nat→Prop):List AV→List AV→Prop
 | nil:FzL h S [] []
 | cons {v v' vs vs'}:FzV h S v v'→FzL h S vs vs'→FzL h S (v::vs) (v'::vs')
end
def bJ (F:bZ)(mode:Nat)(f:Nat)(args:List AV)(h:ad)(Q:AV→ad→Prop):Prop :=
 (mode=0∧F f args h Q)∨(mode≤1∧F f args h (fun v h'=>h.Ext h'∧Q v h))∨(AV.frozenL args=true∧F f args ad.empty (fun v _=>v.frozen=true∧Q v h)) ∨
  (mode=0∧(f == fU)=false∧∃ (S:Nat→Prop) (args':List AV),FzL h S args args'∧AV.frozenL args'=true∧F f args' ad.empty (fun v _=>v.frozen=true∧Q v (h.drop S)))
def fj {α:Type}(o:Option α)(Q:α→Prop):Prop :=
 match o with
 | some x=>Q x
 | none=>False
inductive Res where
 | val (v:AV) (h:ad)
 | new (o:iQ) (f:Nat→AV)
 | both (f:Bool→AV)
def part (ag:Bool)(off n:Nat)(cs:List AV):AV:=if ag then .agg ((cs.drop off).take n) else cs.getD off .undef
def a8 (env:Env):DOp→Option AV
  | .mv x=>some (ev env x)
  | .pick c a b=>match ev env c with
    | .bool t=>some (if t then ev env a else ev env b)
    | _=>none
  | .build zero parts=>(ft env zero parts).map .agg
  | .lit esz len zero parts=>(ft env zero parts).bind fun cs=>if cs.length=len*esz then some (.rd len cs true) else none
  | .nilck x=>match ev env x with
    | .ptr id g o=>some (.ptr id g o)
    | .rp cs=>some (.rp cs)
    | _=>none
  | .bin op x y=>xd op (ev env x) (ev env y)
  | .eqB neg x y=>eqB neg (ev env x) (ev env y)
  | .eqS neg k x y=>eqS neg k (ev env x) (ev env y)
  | .bytesOf x=>match ev env x with
    | .str s=>some (.rd s.length (s.map fun b => .int .u8 b.toNat) false)
    | _=>none
  | .un op x=>FX op (ev env x)
  | .conv k x=>match ev env x with
    | .int _ n=>some (.int k (k.wrap n))
    | _=>none
  | .mkfn f captured=>if captured.all (fun x=>(ev env x).oneCell)=true then some (.fn f (captured.map (ev env))) else none
  | .slice esz x lo hi mx=>match ev env x with
    | .rd n cs full=>(eY env 0 lo).bind fun l=>(eY env n hi).bind fun r=>(eY env r mx).bind fun m =>
        if 0≤l∧l≤r∧r≤n∧m=r∧cs.length=n*esz then some (.rd (r-l).toNat ((cs.drop (l.toNat*esz)).take ((r-l).toNat*esz)) (mx.isSome||(full&&decide (r=n)))) else none
    | .own id g e off len lim=>(eY env 0 lo).bind fun l=>(eY env len hi).bind fun r=>(eY env r mx).bind fun m =>
        if 0≤l∧l≤r∧r≤len∧m=r∧e=esz then some (.own id g e (off+l.toNat) (r-l).toNat (if mx.isSome then some (r-l).toNat else lim.map (·-l.toNat))) else none
    | _=>none
  | .sliceStr x lo hi=>match ev env x with
    | .str s=>(eY env 0 lo).bind fun l=>(eY env s.length hi).bind fun r=>if 0≤l∧l≤r∧r≤s.length then some (.str ((s.drop l.toNat).take (r-l).toNat)) else none
    | _=>none
  | .fieldAddr off x=>match ev env x with
    | .ptr id g o=>some (.ptr id g (o+off))
    | .rp cs=>if off≤cs.length then some (.rp (cs.drop off)) else none
    | _=>none
  | .field off n ag x=>match ev env x with
    | .agg cs=>if off+n≤cs.length then some (part ag off n cs) else none
    | _=>none
  | .indexAddr esz x i=>match ev env x,ev env i with
    | .rd n cs _,.int _ j=>if 0≤j∧j<n then some (.rp ((cs.drop (j.toNat*esz)).take esz)) else none
    | .own id g e off len _,.int _ j=>if e=esz∧0≤j∧j<len then some (.ptr id g ((off+j.toNat)*esz)) else none
    | _,_=>none
  | .indexAddrA len esz x i=>match ev env x,ev env i with
    | .ptr id g o,.int _ j=>if 0≤j∧j<len then some (.ptr id g (o+j.toNat*esz)) else none
    | .rp cs,.int _ j=>if 0≤j∧j<len∧j.toNat*esz≤cs.length then some (.rp (cs.drop (j.toNat*esz))) else none
    | _,_=>none
  | .indexA len esz ag x i=>match ev env x,ev env i with
    | .agg cs,.int _ j=>if 0≤j∧j<len∧j.toNat*esz+esz≤cs.length then some (part ag (j.toNat*esz) esz cs) else none
    | _,_=>none
  | .indexStr x i=>match ev env x,ev env i with
    | .str s,.int _ j=>if 0≤j∧j<s.length then some (.int .u8 (s.getD j.toNat 0).toNat) else none
    | _,_=>none
  | .extract x i=>match ev env x with
    | .tup vs=>vs[i]?
    | _=>none
  | .mx xs=>ju (fun a b=>if b>a then b else a) (xs.map (ev env))
  | .mn xs=>ju (fun a b=>if b<a then b else a) (xs.map (ev env))
  | _=>none
noncomputable def bg (env:Env)(h:ad):DOp→Option AV
  | .load bx n ag x=>match ev env x with
    | .ptr id g off=>match h.get id with
      | some (.cells g' cs)=>if g'=g∧(bx=true→g=0)∧off+n≤cs.length then some (part ag off n cs) else none
      | _=>none
    | .rp cs=>if n≤cs.length then some (part ag 0 n cs) else none
    | _=>none
  | .loadm bx x=>match ev env x with
    | .ptr id g off=>match h.get id with
      | some (.cells g' cs)=>if g'=g∧(bx=true→g=0)∧off+1≤cs.length then(match cs.getD off .undef with
        | .map m=>some (.map m)
        | _=>none) else none
      | _=>none
    | _=>none
  | .lookup kk zero ok x k=>if kc kk (ev env k)=true then
      match ev env x with
      | .map id=>match h.get id with
        | some (.map kk' es)=>if kk'=kk then some (if ok then .tup [(iN es (ev env k)).getD zero,.bool (iN es (ev env k)).isSome] else(iN es (ev env k)).getD zero) else none
        | _=>none
      | .nilm=>some (if ok then .tup [zero,.bool false] else zero)
      | _=>none
    else none
  | .sliceA n esz x lo hi=>match ev env x with
    | .ptr id g 0=>match h.get id with
      | some (.cells g' cs)=>(eY env 0 lo).bind fun l=>(eY env n hi).bind fun r =>
          if g'=g∧n*esz≤cs.length∧0≤l∧l≤r∧r≤n then some (.own id g esz l.toNat (r-l).toNat (some (n-l.toNat))) else none
      | _=>none
    | _=>none
  | .strOf x=>if (ev env x).isStr=true then none else(bB h 1 (ev env x)).bind fun(_,cs)=>(mE cs).map .str
  | .len k x=>match k,ev env x with
    | 0,.rd n _ _=>some (.int .i64 n)
    | 0,.own _ _ _ _ len _=>some (.int .i64 len)
    | 1,.str s=>some (.int .i64 s.length)
    | 2,.nilm=>some (.int .i64 0)
    | 2,.map id=>match h.get id with
      | some (.map _ es)=>some (.int .i64 es.length)
      | _=>none
    | _,_=>none
  | _=>none
def gT (env:Env):DOp→Option (iQ×(Nat→AV))
 | .alloc zero=>some (.cells 0 zero,fun id => .ptr id 0 0)
 | .box x=>if (ev env x).isVal=true then some (.cells 0 (ev env x).cells,fun id => .ptr id 0 0) else none
 | .mkmap kk=>some (.map kk [],.map)
 | .mkslice zero len cap=>match ev env len,ev env cap with
  | .int _ n,.int _ c=>if 0≤n∧n≤c∧c≤kH then some (.cells 1 (List.replicate n.toNat zero).flatten,fun id => .own id 1 zero.length 0 n.toNat none) else none
  | _,_=>none
 | _=>none
noncomputable def dr (env:Env)(h:ad):DOp→Option Res
  | .store n x v=>match ev env x with
    | .ptr id g off=>match h.get id with
      | some (.cells g' cs)=>if g'=g∧(ev env v).isVal=true∧(ev env v).cells.length=n∧off+n≤cs.length then some (.val .undef (h.set id (.cells g (putCells cs off (ev env v).cells)))) else none
      | _=>none
    | _=>none
  | .update kk m k v=>if kc kk (ev env k)=true∧(ev env v).isVal=true then
      match ev env m with
      | .map id=>match h.get id with
        | some (.map kk' es)=>if kk'=kk then some (.val .undef (h.set id (.map kk (mf es (ev env k) (ev env v))))) else none
        | _=>none
      | _=>none
    else none
  | .append esz x y=>(bB h esz (ev env y)).bind fun(m,new) =>
    match ev env x with
    | .rd n cs full=>if cs.length=n*esz∧n+m≤kH then
        (if m=0 then some (.val (ev env x) h) else if full=true then some (.new (.cells 1 (cs++new)) fun id => .own id 1 esz 0 (n+m) none) else none) else none
    | .own id g e off len lim =>
        match h.get id with
        | some (.cells g' cs)=>if g'=g∧1≤g∧e=esz∧len+m≤kH∧(off+len)*esz≤cs.length then
          match lim with
          | none=>some (.val (.own id (g+1) esz 0 (len+m) none) (h.set id (.cells (g+1) ((cs.drop (off*esz)).take (len*esz)++new))))
          | some c=>if m=0 then some (.val (ev env x) h) else if c<len+m then some (.new (.cells 1 ((cs.drop (off*esz)).take (len*esz)++new)) fun id' => .own id' 1 esz 0 (len+m) none) else none
          else none
        | _=>none
    | _=>none
  | .eqN neg x=>match ev env x with
    | .rd n _ _=>if n=0 then some (.both fun b => .bool b) else some (.val (.bool neg) h)
    | .own _ _ _ _ len _=>if len=0 then some (.both fun b => .bool b) else some (.val (.bool neg) h)
    | _=>none
  | .clear zero x=>match ev env x with
    | .own id g e off len _ =>
        match h.get id with
        | some (.cells g' cs)=>if g'=g∧e=zero.length∧(off+len)*e≤cs.length then some (.val (.tup []) (h.set id (.cells g (cs.take (off*e)++(List.replicate len zero).flatten++cs.drop ((off+len)*e))))) else none
        | _=>none
    | .rd n _ _=>if n=0 then some (.val (.tup []) h) else none
    | _=>none
  | .copy esz x y=>(bB h esz (ev env y)).bind fun(m,new) =>
    match ev env x with
    | .own id g e off len _ =>
        match h.get id with
        | some (.cells g' cs)=>if g'=g∧e=esz∧(off+len)*esz≤cs.length then
          some (.val (.int .i64 (min m len:Nat)) (h.set id (.cells g (cs.take (off*esz)++new.take (min m len*esz)++cs.drop ((off+min m len)*esz))))) else none
        | _=>none
    | .rd n _ _=>if n=0 then some (.val (.int .i64 0) h) else none
    | _=>none
  | _=>none
inductive Lh where
 | pure|read|new|eff|call|callk
 deriving DecidableEq
def DOp.kind:DOp→Lh
 | .load .. | .lookup .. | .len .. | .strOf _ | .sliceA .. | .loadm .. => .read
 | .alloc _ | .box _ | .mkmap _ | .mkslice .. => .new
 | .store .. | .update .. | .append .. | .clear .. | .copy .. | .eqN .. => .eff
 | .call .. | .callv .. => .call
 | .callk .. => .callk
 | _ => .pure
def mI (h:ad)(Q:AV→ad→Prop):Option Res→Prop
 | none=>False
 | some (.val v h')=>Q v h'
 | some (.new o f)=>∀ id,h.get id=none→Q (f id) (h.set id o)
 | some (.both f)=>∀ b,Q (f b) h
noncomputable def fo (env:Env)(h:ad)(op:DOp):Option Res :=
 match op.kind with
 | .pure=>(a8 env op).map (.val · h)
 | .read=>(bg env h op).map (.val · h)
 | .new=>(gT env op).map fun x => .new x.1 x.2
 | .eff=>dr env h op
 | .call | .callk=>none
def gG (env:Env):DOp→Option (Nat×Nat×List AV)
 | .call p f args=>if args.all (fun x => !(ev env x).isTup)=true then some (p,f,args.map (ev env)) else none
 | .callv p x args=>match ev env x with
  | .fn f captured=>if args.all (fun x => !(ev env x).isTup)=true then some (p,f,args.map (ev env)++captured) else none
  | .yield id=>if args.all (fun x => !(ev env x).isTup)=true then some (p,fU,.yield id::args.map (ev env)) else none
  | _=>none
 | _=>none
def jh (env:Env):DOp→Option (Bool×Nat×List AV)
 | .callk e f args=>if args.all (fun x => !(ev env x).isTup)=true then some (e,f,args.map (ev env)) else none
 | _=>none
def H3 (h h':ad):Prop:=∀ (id g:Nat) (cs:List AV) (off m:Nat),h.get id=some (.cells g cs)→cs[off]?=some (AV.map m)→∃ cs':List AV,h'.get id=some (.cells g cs')∧cs'[off]?=some (AV.map m)
def yJ (e:Bool)(h h':ad):Prop:=if e=true then h.Ext h' else H3 h h'
def wop (F:bZ)(env:Env)(h:ad)(Q:AV→ad→Prop)(op:DOp):Prop :=
 if op.kind = .callk then
  match jh env op with
  | some (e,f,args)=>F f args h (fun v h'=>yJ e h h'∧Q v h')
  | none=>False
 else if op.kind = .call then
  match gG env op with
  | some (p,f,args)=>bJ F p f args h Q
  | none=>False
 else mI h Q (fo env h op)
def putDst (env:Env):Option Nat→AV→Env
 | none,_=>env
 | some t,v=>env.put t v
def wanted (env:Env):Option (Nat×Bool)→Option Bool
 | none=>some true
 | some (t,b)=>match env t with
  | .bool c=>some (c == b)
  | .tup []=>some false
  | _=>none
def cz (F:bZ)(o:bK)(Q:Env→ad→Prop)(env:Env)(h:ad):Prop :=
 match wanted env o.guard with
 | some true=>wop F env h (fun v h'=>Q (putDst env o.dst v) h') o.op
 | some false=>Q (putDst env o.dst (.tup [])) h
 | none=>False
def az (F:bZ):List bK→(Env→ad→Prop)→Env→ad→Prop
 | [],Q=>Q
 | o::r,Q=>cz F o (az F r Q)
def wfz (K:Env→ad→Prop)(env:Env)(h:ad):Prop :=
 K env h∨∃ (S:Nat→Prop) (env':Env),(∀ t,FzV h S (env t) (env' t))∧K env' (h.drop S)
def mz (id:Nat)(K:Option Ex→Prop)(h:ad):Prop :=
 match h.get id with
 | some (.loop st pend _ _ _ _)=>st ≠ .busy∧pend≠some .norm∧K pend
 | _=>False
def bm (F:bZ):gk→(Ex→Env→ad→Prop)→Env→ad→Prop
  | .skip,Q,env,h=>Q .norm env h
  | .ops l,Q,env,h=>wfz (fun env h=>az F l (fun env h=>Q .norm env h) env h) env h
  | .seq a b,Q,env,h=>bm F a (fun ex env h=>match ex with
    | .norm=>bm F b Q env h
    | ex=>Q ex env h) env h
  | .cond c a b,Q,env,h=>match ev env c with
    | .bool t=>if t=true then bm F a Q env h else bm F b Q env h
    | _=>False
  | .block id c,Q,env,h=>bm F c (fun ex env h=>match ex with
    | .exit j=>if j=id then Q .norm env h else Q (.exit j) env h
    | ex=>Q ex env h) env h
  | .loop c,Q,env,h=>∀ S:Env→ad→Prop,(∀ env h,bm F c (fun ex env h=>match ex with
    | .norm=>S env h
    | ex=>Q ex env h) env h→S env h)→S env h
  | .rangef f ps a b,Q,env,h=>match ev env f with
    | .fn g cap=>∀ id,h.get id=none→F g (.yield id::cap) (h.set id (.loop .ready none env ps a b)) (fun _ h'=>mz id (fun pend=>match pend with
        | none=>Q .norm env (h'.drop (·=id))
        | some ex=>Q ex env (h'.drop (·=id))) h')
    | _=>False
  | .exit id,Q,env,h=>Q (.exit id) env h
  | .ret,Q,env,h=>Q .ret env h
def lY (env:Env)(h:ad):vP→Option AV
 | .tmp t=>some (env t)
 | .cell t n ag=>match env t with
  | .ptr id g off=>match h.get id with
   | some (.cells g' cs)=>if g'=g∧off+n≤cs.length then some (if ag then .agg ((cs.drop off).take n) else cs.getD off .undef) else none
   | _=>none
  | _=>none
def fm (env:Env)(h:ad)(rs:List vP):Option AV :=
 match rs with
 | [r]=>lY env h r
 | rs=>(rs.mapM (lY env h)).bind fun vs=>if vs.all (fun x => !x.isTup)=true then some (.tup vs) else none
def kR (args:List AV):Env:=fun t=>args.getD t .undef
def FT (F:bZ)(d:bN)(args:List AV)(h:ad)(Q:AV→ad→Prop):Prop :=
 bm F d.body (fun ex env h=>(ex = .norm∨ex = .ret)∧fj (fm env h d.results) fun v =>
  Q v h∨∃ (S:Nat→Prop) (v':AV),FzV h S v v'∧Q v' (h.drop S)) (kR args) h
structure Ext where
 pt:List AV→ad→(AV→ad→Prop)→Prop
 mono:∀ {args h Q Q'},(∀ v h,Q v h→Q' v h)→pt args h Q→pt args h Q'
 feas:∀ {args h Q},pt args h Q→∃ v h',Q v h'
inductive sV where
 | code (d:bN)
 | ext (p:Ext)
abbrev Lib:=Nat→Option sV
def jX (env:Env):List Nat→List AV→Env
 | t::ts,v::vs=>jX (env.put t v) ts vs
 | _,_=>env
def fB (id:Nat)(st st':LoopState)(pend:Option (Option Ex))(K:ad→Prop)(h:ad):Prop :=
 match h.get id with
 | some (.loop st0 p env ps a b)=>st0=st∧K (h.set id (.loop st' (pend.getD p) env ps a b))
 | _=>False
def nu (F:bZ)(args:List AV)(h:ad)(Q:AV→ad→Prop):Prop :=
  match args with
  | .yield id::vs=>match h.get id with
    | some (.loop _ _ env ps a b)=>vs.length=ps.length∧bm F a (fun ex e h'=>ex = .norm∧fB id .ready .busy none (fun h' =>
        bm F b (fun ex e h'=>match ex with
          | .norm=>fB id .busy .ready (some none) (Q (.bool true)) h'
          | ex=>fB id .busy .done (some (some ex)) (Q (.bool false)) h') e h') h') (jX env ps vs) h
    | _=>False
  | _=>False
def nY (Φ:Lib)(F:bZ):bZ:=fun f args h Q =>
 if f=fU then nu F args h Q else
 match Φ f with
 | some (.code d)=>FT F d args h Q
 | some (.ext p)=>p.pt args h Q
 | none=>False
def bc (Φ:Lib):bZ:=fun f args h Q =>
 ∀ F:bZ,(∀ f args h Q,nY Φ F f args h Q→F f args h Q)→(∀ f args h Q Q',(∀ v h,Q v h→Q' v h)→F f args h Q→F f args h Q')→F f args h Q
end
section
open Go
abbrev FLe (F F':bZ):Prop:=∀ f args h Q,F f args h Q→F' f args h Q
abbrev jL (F:bZ):Prop:=∀ f args h (Q Q':AV→ad→Prop),(∀ v h,Q v h→Q' v h)→F f args h Q→F f args h Q'
theorem CT {h:ad}{Q Q':AV→ad→Prop}(hq:∀ v h,Q v h→Q' v h){r:Option Res}(hr:mI h Q r):mI h Q' r:=by
 unfold mI at *
 split at hr
 ·exact hr
 ·exact hq _ _ hr
 ·exact fun id hid=>hq _ _ (hr id hid)
 ·exact fun b=>hq _ _ (hr b)
theorem ad.fresh (h:ad):∃ id,h.get id=none:=let ⟨n,hn⟩:=h.fin;⟨n,hn n (Nat.le_refl _)⟩
theorem ad.fresh_ne (h:ad)(x:Nat):∃ id,id≠x∧h.get id=none:=let ⟨n,hn⟩:=h.fin;⟨max n (x+1),by omega,hn _ (by omega)⟩
theorem CU {h:ad}{Q:AV→ad→Prop}{r:Option Res}(hr:mI h Q r):∃ v h',Q v h':=by
 unfold mI at hr
 split at hr
 ·exact hr.elim
 ·exact⟨_,_,hr⟩
 ·obtain⟨id,hid⟩:=h.fresh
  exact⟨_,_,hr id hid⟩
 ·exact⟨_,_,hr true⟩
theorem tz {F F':bZ}(hF:FLe F F')(hm:jL F){p f args h}{Q Q':AV→ad→Prop}(hq:∀ v h,Q v h→Q' v h)(hw:bJ F p f args h Q):bJ F' p f args h Q':=by
 rcases hw with⟨hp,hw⟩|⟨hp,hw⟩|⟨hz,hw⟩|⟨hp,hy,S,args',hf,hz,hw⟩
 ·exact .inl ⟨hp,hF _ _ _ _ (hm _ _ _ _ _ hq hw)⟩
 ·exact .inr (.inl ⟨hp,hF _ _ _ _ (hm _ _ _ _ _ (fun v h ⟨a,b⟩=>⟨a,hq _ _ b⟩) hw)⟩)
 ·exact .inr <| .inr <| .inl ⟨hz,hF _ _ _ _ (hm _ _ _ _ _ (fun v h ⟨a,b⟩=>⟨a,hq _ _ b⟩) hw)⟩
 ·exact .inr <| .inr <| .inr ⟨hp,hy,S,args',hf,hz,hF _ _ _ _ (hm _ _ _ _ _ (fun v h ⟨a,b⟩=>⟨a,hq _ _ b⟩) hw)⟩
theorem FM {F F':bZ}(hF:FLe F F')(hm:jL F){env h op}{Q Q':AV→ad→Prop}(hq:∀ v h,Q v h→Q' v h)(hw:wop F env h Q op):wop F' env h Q' op:=by
 unfold wop at *
 by_cases hk2:op.kind = .callk
 ·rw[if_pos hk2]at hw ⊢
  split at hw
  ·exact hF _ _ _ _ (hm _ _ _ _ _ (fun v h ⟨a,b⟩=>⟨a,hq _ _ b⟩) hw)
  ·exact hw
 rw[if_neg hk2]at hw ⊢
 by_cases hk:op.kind = .call
 ·rw[if_pos hk]at hw ⊢
  split at hw
  ·exact tz hF hm hq hw
  ·exact hw
 ·rw[if_neg hk]at hw ⊢
  exact CT hq hw
theorem vQ {F F':bZ}(hF:FLe F F')(hm:jL F){o:bK}{env h}{Q Q':Env→ad→Prop}(hq:∀ e h,Q e h→Q' e h)(hw:cz F o Q env h):cz F' o Q' env h:=by
 unfold cz at *
 cases hg:wanted env o.guard with
 | none=>rw[hg]at hw;exact hw
 | some b =>
  rw[hg]at hw
  cases b with
  | true=>exact FM hF hm (fun v h hh=>hq _ _ hh) hw
  | false=>exact hq _ _ hw
theorem rx {F F':bZ}(hF:FLe F F')(hm:jL F):∀ (l:List bK) {env h} {Q Q':Env→ad→Prop},(∀ e h,Q e h→Q' e h)→az F l Q env h→az F' l Q' env h
 | [],_,_,_,_,hq,hw=>hq _ _ hw
 | o::r,env,h,Q,Q',hq,hw=>vQ hF hm (fun _ _=>rx hF hm r hq) hw
theorem FS {K K':Env→ad→Prop}(hk:∀ e h,K e h→K' e h){env h}(hw:wfz K env h):wfz K' env h :=
 hw.imp (hk _ _) fun⟨S,e,a,b⟩=>⟨S,e,a,hk _ _ b⟩
theorem ye {id:Nat}{K K':Option Ex→Prop}{h:ad}(hk:∀ p,K p→K' p)(hw:mz id K h):mz id K' h:=by
 unfold mz at *
 split at hw
 ·exact⟨hw.1,hw.2.1,hk _ hw.2.2⟩
 ·exact hw.elim
theorem kQ {id:Nat}{st st':LoopState}{p:Option (Option Ex)}{K K':ad→Prop}{h:ad}(hk:∀ h,K h→K' h)(hw:fB id st st' p K h):fB id st st' p K' h:=by
 unfold fB at *
 split at hw
 ·exact⟨hw.1,hk _ hw.2⟩
 ·exact hw.elim
theorem yf {id:Nat}{K:Option Ex→Prop}{h:ad}(hw:mz id K h):∃ p,K p:=by
 unfold mz at hw
 split at hw
 ·exact⟨_,hw.2.2⟩
 ·exact hw.elim
theorem pL {id:Nat}{st st':LoopState}{p:Option (Option Ex)}{K:ad→Prop}{h:ad}(hw:fB id st st' p K h):∃ h,K h:=by
 unfold fB at hw
 split at hw
 ·exact⟨_,hw.2⟩
 ·exact hw.elim
theorem cK {F F':bZ}(hF:FLe F F')(hm:jL F):∀ (c:gk) {env h} {Q Q':Ex→Env→ad→Prop},(∀ x e h,Q x e h→Q' x e h)→bm F c Q env h→bm F' c Q' env h
 | .skip,_,_,_,_,hq,hw=>hq _ _ _ hw
 | .ops l,_,_,_,_,hq,hw=>FS (fun _ _=>rx hF hm l fun _ _=>hq _ _ _) hw
 | .seq a b,env,h,Q,Q',hq,hw=>by
  unfold bm at *
  refine cK hF hm a (fun x e h hh=>?_) hw
  cases x
  ·exact cK hF hm b hq hh
  ·exact hq _ _ _ hh
  ·exact hq _ _ _ hh
 | .cond c a b,env,h,Q,Q',hq,hw=>by
  unfold bm at *
  split at hw
  ·split at hw
   ·simp only[*];exact cK hF hm a hq hw
   ·rename_i hx _;simp only[*];exact cK hF hm b hq hw
  ·exact hw.elim
 | .block id c,env,h,Q,Q',hq,hw=>by
  unfold bm at *
  refine cK hF hm c (fun x e h hh=>?_) hw
  cases x
  ·exact hq _ _ _ hh
  ·dsimp only at *
   split at hh
   ·rename_i hx;simp only[hx,if_true];exact hq _ _ _ hh
   ·rename_i hx;simp only[hx,if_false];exact hq _ _ _ hh
  ·exact hq _ _ _ hh
 | .loop c,env,h,Q,Q',hq,hw=>by
  unfold bm at *
  intro S hS
  refine hw S fun e h hh=>hS e h (cK hF hm c (fun x e h hh=>?_) hh)
  cases x
  ·exact hh
  ·exact hq _ _ _ hh
  ·exact hq _ _ _ hh
 | .rangef f ps a b,env,h,Q,Q',hq,hw=>by
  unfold bm at *
  split at hw
  ·intro id hid
   refine hF _ _ _ _ (hm _ _ _ _ _ (fun _ h' hh=>ye (fun p hp=>?_) hh) (hw id hid))
   cases p
   ·exact hq _ _ _ hp
   ·exact hq _ _ _ hp
  ·exact hw.elim
 | .exit id,_,_,_,_,hq,hw=>hq _ _ _ hw
 | .ret,_,_,_,_,hq,hw=>hq _ _ _ hw
theorem CV {α:Type}{Q Q':α→Prop}(hq:∀ x,Q x→Q' x){o:Option α}(h:fj o Q):fj o Q':=by
 unfold fj at *
 split at h
 ·exact hq _ h
 ·exact h
theorem C4 {F F':bZ}(hF:FLe F F')(hm:jL F){d args h}{Q Q':AV→ad→Prop}(hq:∀ v h,Q v h→Q' v h)(hw:FT F d args h Q):FT F' d args h Q' :=
 cK hF hm d.body (fun _ _ _ ⟨a,b⟩=>⟨a,CV (fun _ hv=>hv.imp (hq _ _) fun⟨S,v',x,y⟩=>⟨S,v',x,hq _ _ y⟩) b⟩) hw
theorem yL {F F':bZ}(hF:FLe F F')(hm:jL F){args h}{Q Q':AV→ad→Prop}(hq:∀ v h,Q v h→Q' v h)(hw:nu F args h Q):nu F' args h Q':=by
 unfold nu at *
 split at hw
 ·split at hw
  ·refine⟨hw.1,cK hF hm _ (fun x e h hh=>⟨hh.1,kQ (fun h' hb=>cK hF hm _ (fun x e h hh=>?_) hb) hh.2⟩) hw.2⟩
   cases x
   ·exact kQ (fun _=>hq _ _) hh
   ·exact kQ (fun _=>hq _ _) hh
   ·exact kQ (fun _=>hq _ _) hh
  ·exact hw.elim
 ·exact hw.elim
theorem tm {Φ:Lib}{F F':bZ}(hF:FLe F F')(hm:jL F){f args h}{Q Q':AV→ad→Prop}(hq:∀ v h,Q v h→Q' v h)(hw:nY Φ F f args h Q):nY Φ F' f args h Q':=by
 unfold nY at *
 split at hw
 ·rename_i h0;rw[if_pos h0];exact yL hF hm hq hw
 ·rename_i h0
  rw[if_neg h0]
  split at hw
  ·exact C4 hF hm hq hw
  ·rename_i p _;exact p.mono hq hw
  ·exact hw
theorem bc.mono (Φ:Lib):jL (bc Φ):=fun _ _ _ _ _ hq hw F hF hm=>hm _ _ _ _ _ hq (hw F hF hm)
theorem bc.fold {Φ:Lib}{f args h Q}(hw:nY Φ (bc Φ) f args h Q):bc Φ f args h Q:=fun F hF hm =>
 hF _ _ _ _ (tm (fun _ _ _ _ hh=>hh F hF hm) (bc.mono Φ) (fun _ _ hh=>hh) hw)
theorem bc.code {Φ:Lib}{f d args h Q}(h0:f≠fU)(hf:Φ f=some (.code d))(hw:FT (bc Φ) d args h Q):bc Φ f args h Q :=
 .fold (by unfold nY;rw[if_neg h0,hf];exact hw)
theorem bc.yield {Φ:Lib}{args h Q}(hw:nu (bc Φ) args h Q):bc Φ fU args h Q :=
 .fold (by unfold nY;rw[if_pos rfl];exact hw)
abbrev mH (F:bZ):Prop:=∀ f args h Q,F f args h Q→∃ v h',Q v h'
theorem FO {F:bZ}(hF:mH F){env h op}{Q:AV→ad→Prop}(hw:wop F env h Q op):∃ v h',Q v h':=by
 unfold wop at hw
 split at hw
 ·split at hw
  ·obtain⟨v,h',_,hq⟩:=hF _ _ _ _ hw
   exact⟨v,h',hq⟩
  ·exact hw.elim
 split at hw
 ·split at hw
  ·rcases hw with⟨_,hw⟩|⟨_,hw⟩|⟨_,hw⟩|⟨_,_,_,_,_,_,hw⟩
   ·exact hF _ _ _ _ hw
   ·obtain⟨v,h',_,hq⟩:=hF _ _ _ _ hw
    exact⟨v,_,hq⟩
   ·obtain⟨v,h',_,hq⟩:=hF _ _ _ _ hw
    exact⟨v,_,hq⟩
   ·obtain⟨v,h',_,hq⟩:=hF _ _ _ _ hw
    exact⟨v,_,hq⟩
  ·exact hw.elim
 ·exact CU hw
theorem CS {F:bZ}(hF:mH F){o:bK}{env h}{Q:Env→ad→Prop}(hw:cz F o Q env h):∃ e h,Q e h:=by
 unfold cz at hw
 split at hw
 ·obtain⟨v,h',hh⟩:=FO hF hw
  exact⟨_,_,hh⟩
 ·exact⟨_,_,hw⟩
 ·exact hw.elim
theorem vU {F:bZ}(hF:mH F):∀ (l:List bK) {env h} {Q:Env→ad→Prop},az F l Q env h→∃ e h,Q e h
 | [],_,_,_,hw=>⟨_,_,hw⟩
 | o::r,env,h,Q,hw=>by
  obtain⟨e,h',hh⟩:=CS hF (show cz F o (az F r Q) env h from hw)
  exact vU hF r hh
theorem iq {F:bZ}(hF:mH F):∀ (c:gk) {env h} {Q:Ex→Env→ad→Prop},bm F c Q env h→∃ x e h,Q x e h
 | .skip,_,_,_,hw=>⟨_,_,_,hw⟩
 | .ops l,_,_,_,hw=>by
  rcases hw with hw|⟨_,_,_,hw⟩<;>(obtain⟨e,h,hq⟩:=vU hF l hw;exact⟨_,_,_,hq⟩)
 | .seq a b,env,h,Q,hw=>by
  obtain⟨x,e,h,hh⟩:=iq hF a hw
  cases x
  ·exact iq hF b hh
  ·exact⟨_,_,_,hh⟩
  ·exact⟨_,_,_,hh⟩
 | .cond c a b,env,h,Q,hw=>by
  unfold bm at hw
  split at hw
  ·split at hw
   ·exact iq hF a hw
   ·exact iq hF b hw
  ·exact hw.elim
 | .block id c,env,h,Q,hw=>by
  obtain⟨x,e,h,hh⟩:=iq hF c hw
  cases x
  ·exact⟨_,_,_,hh⟩
  ·dsimp only at hh
   split at hh<;>exact⟨_,_,_,hh⟩
  ·exact⟨_,_,_,hh⟩
 | .loop c,env,h,Q,hw=>by
  refine hw (fun _ _=>∃ x e h,Q x e h) fun e h hh=>?_
  obtain⟨x,e,h,hh⟩:=iq hF c hh
  cases x
  ·exact hh
  ·exact⟨_,_,_,hh⟩
  ·exact⟨_,_,_,hh⟩
 | .rangef f ps a b,env,h,Q,hw=>by
  unfold bm at hw
  split at hw
  ·obtain⟨id,hid⟩:=h.fresh
   obtain⟨_,h',hh⟩:=hF _ _ _ _ (hw id hid)
   obtain⟨p,hp⟩:=yf hh
   cases p<;>exact⟨_,_,_,hp⟩
  ·exact hw.elim
 | .exit id,_,_,_,hw=>⟨_,_,_,hw⟩
 | .ret,_,_,_,hw=>⟨_,_,_,hw⟩
theorem bc.feas (Φ:Lib):mH (bc Φ):=fun _ _ _ _ hw=>by
 refine hw (fun _ _ _ Q=>∃ v h',Q v h') (fun f args h Q hh=>?_) (fun _ _ _ _ _ hq ⟨v,h,hh⟩=>⟨v,h,hq _ _ hh⟩)
 unfold nY at hh
 split at hh
 ·unfold nu at hh
  split at hh
  ·split at hh
   ·obtain⟨x,e,h,_,hx⟩:=iq (fun _ _ _ _ h=>h) _ hh.2
    obtain⟨h',hx⟩:=pL hx
    obtain⟨x,e,h,hx⟩:=iq (fun _ _ _ _ h=>h) _ hx
    cases x<;>(obtain⟨h',hx⟩:=pL hx;exact⟨_,_,hx⟩)
   ·exact hh.elim
  ·exact hh.elim
 ·split at hh
  ·obtain⟨x,e,h,_,hv⟩:=iq (fun _ _ _ _ h=>h) _ hh
   unfold fj at hv
   split at hv
   ·rcases hv with hv|⟨_,_,_,hv⟩<;>exact⟨_,_,hv⟩
   ·exact hv.elim
  ·rename_i p _;exact p.feas hh
  ·exact hh.elim
theorem KC {F:bZ}{c:gk}{Q:Ex→Env→ad→Prop}(I:Nat→Env→ad→Prop)(n:Nat){env:Env}{h:ad}(h0:I n env h)
  (hr:∀ n env h,I n env h→bm F c (fun ex e h=>match ex with
   | .norm=>∃ m,m<n∧I m e h
   | ex=>Q ex e h) env h) (hF:jL F):bm F (.loop c) Q env h:=by
 unfold bm
 intro S hS
 induction n using Nat.strongRecOn generalizing env h with
 | _ n ih =>
  refine hS _ _ (cK (fun _ _ _ _ h=>h) hF c (fun x e h hh=>?_) (hr n env h h0))
  cases x
  ·obtain⟨m,hm,hI⟩:=hh
   exact ih m hm hI
  ·exact hh
  ·exact hh
end
end Go.Proofs.YtlnobeojgifojaaGreatDoor
