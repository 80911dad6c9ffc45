/- What the abstract machine's values and heap have to do with the model's: contexts, relations, and how they live on. -/
import Derived.Test.YtlnobeojgifojaaGreatDoorA1
import Derived.Laws.Tables
import Derived.Laws.Rows
import Derived.Laws.World
import Derived.MapKept
namespace Go.Proofs.YtlnobeojgifojaaGreatDoor
section
open Go
structure Phi where
 fn:Nat→Option FuncId
 code:Nat→Code→gk→Prop
instance:CoeFun Phi (fun _=>Nat→Option FuncId):=⟨Phi.fn⟩
structure Ctx where
 κ:Nat→Option (Nat×Nat)
 h:ad
 w:World
 M:Nat→Prop
def Ctx.Mut (X:Ctx)(B:Nat):Prop:=X.M B∨∃ id base,X.κ id=some (B,base)
def ROk (X:Ctx)(a:Addr)(vs:List Value):Prop :=
 a.spot=none∧a.block<X.w.heap.size∧¬ X.Mut a.block∧∀ j v,vs[j]?=some v→X.w.cell? ⟨a.block,a.off+j,none⟩=some v
def CM (X:Ctx)(id esz off:Nat)(lim:Option Nat)(a:Option Addr)(cap:Nat):Prop :=
 ∃ B base C T,X.κ id=some (B,base)∧X.w.heap[B]?=some (.cells C T (0,0))∧(0<cap→a=some ⟨B,base+off*esz,none⟩) ∧
  base+(off+cap)*esz≤C.size∧(match lim with
   | none=>base+(off+cap)*esz=C.size
   | some c=>cap=c)
mutual
inductive VC (φ:Phi) (X:Ctx):AV→Value→Prop
 | bool (b:Bool):VC φ X (.bool b) (.bool b)
 | int (k:IntKind) (n:Int):VC φ X (.int k n) (.int k n)
 | str (s:List UInt8):VC φ X (.str s) (.string ⟨s.toArray⟩)
 | nilp:VC φ X .nilp (.pointer none)
 | ptr {id g off:Nat} {a:Addr}:id<X.w.heap.size→(∀ g' cs,X.h.get id=some (.cells g' cs)→g≤g'∧(g=g'→∃ B base,X.κ id=some (B,base)∧a=⟨B,base+off,none⟩))→VC φ X (.ptr id g off) (.pointer (some a))
 | rp {cells:List AV} {a:Addr} {vs:List Value}:ROk X a vs→VCs φ X cells vs→VC φ X (.rp cells) (.pointer (some a))
 | rd {n:Nat} {cells:List AV} {full:Bool} {a:Option Addr} {cap:Nat} {vs:List Value}:(n≠0∨vs≠[]→∃ a0,a=some a0∧ROk X a0 vs)→VCs φ X cells vs→n≤cap→(full=true→cap=n)→VC φ X (.rd n cells full) (.slice a n cap)
 | own {id g esz off len:Nat} {lim:Option Nat} {a:Option Addr} {cap:Nat}:id<X.w.heap.size→len≤cap→(0<cap→∃ a0,a=some a0)→(∀ g' cs,X.h.get id=some (.cells g' cs)→g≤g'∧(g=g'→CM X id esz off lim a cap))→VC φ X (.own id g esz off len lim) (.slice a len cap)
 | nilm:VC φ X .nilm (.map none)
 | map {id r:Nat}:id<X.w.heap.size→(∀ kk es,X.h.get id=some (.map kk es)→X.κ id=some (r,0))→VC φ X (.map id) (.map (some r))
 | fn {f:Nat} {fid:FuncId} {cs:List AV} {vs:List Value}:φ f=some fid→VCs φ X cs vs→VC φ X (.fn f cs) (.func (.func fid) #[] vs.toArray)
 | nilf:VC φ X .nilf .nilFunc
 | yield {id l:Nat}:id<X.w.heap.size→(∀ st p env ps a b,X.h.get id=some (.loop st p env ps a b)→X.κ id=some (l,0))→VC φ X (.yield id) (.func (.yield l) #[] #[])
 | nili:VC φ X .nili .nilIface
inductive VCs (φ:Phi) (X:Ctx):List AV→List Value→Prop
 | nil:VCs φ X [] []
 | cons {a v as vs}:VC φ X a v→VCs φ X as vs→VCs φ X (a::as) (v::vs)
end
inductive VR (φ:Phi) (X:Ctx):AV→Value→Prop
 | one {a v}:VC φ X a v→VR φ X a v
 | agg {cs vs}:VCs φ X cs vs→VR φ X (.agg cs) (.agg vs.toArray)
 | undef (v):VR φ X .undef v
inductive VRs (φ:Phi) (X:Ctx):List AV→List Value→Prop
 | nil:VRs φ X [] []
 | cons {a v as vs}:VR φ X a v→VRs φ X as vs→VRs φ X (a::as) (v::vs)
inductive VT (φ:Phi) (X:Ctx):AV→Value→Prop
 | one {a v}:VR φ X a v→VT φ X a v
 | tup {as vs}:VRs φ X as vs→VT φ X (.tup as) (.tuple vs.toArray)
structure Le (X X':Ctx):Prop where
 size:X.w.heap.size≤X'.w.heap.size
 os:X'.w.os=X.w.os
 output:X'.w.output=X.w.output
 M:X'.M=X.M
 kept:∀ B,B<X.w.heap.size→(∀ id base,X.κ id≠some (B,base))→X'.w.heap[B]?=X.w.heap[B]?
 muts:∀ id B base,X'.κ id=some (B,base)→(∃ id' base',X.κ id'=some (B,base'))∨X.w.heap.size≤B
 shape:∀ (B:Nat) (C:Array Value) (T:TypeId) (fr:Nat×Nat),X.w.heap[B]?=some (.cells C T fr)→∃ C':Array Value,X'.w.heap[B]?=some (.cells C' T fr)∧C'.size=C.size
 gen:∀ id,id<X.w.heap.size→∀ g' cs',X'.h.get id=some (.cells g' cs')→∃ g cs,X.h.get id=some (.cells g cs)∧g≤g'∧(g=g'→X'.κ id=X.κ id)
 map:∀ id,id<X.w.heap.size→∀ kk es',X'.h.get id=some (.map kk es')→∃ kk es,X.h.get id=some (.map kk es)∧X'.κ id=X.κ id
 loop:∀ id,id<X.w.heap.size→∀ st p env ps a b,X'.h.get id=some (.loop st p env ps a b)→(∃ st p env ps a b,X.h.get id=some (.loop st p env ps a b))∧X'.κ id=X.κ id
theorem Le.refl (X:Ctx):Le X X where
 size:=Nat.le_refl _
 os:=rfl
 output:=rfl
 M:=rfl
 kept:=fun _ _ _=>rfl
 muts:=fun id _ base h => .inl ⟨id,base,h⟩
 shape:=fun _ C _ _ h=>⟨C,h,rfl⟩
 gen:=fun _ _ g cs h=>⟨g,cs,h,Nat.le_refl _,fun _=>rfl⟩
 map:=fun _ _ kk es h=>⟨kk,es,h,rfl⟩
 loop:=fun _ _ st p env ps a b h=>⟨⟨st,p,env,ps,a,b,h⟩,rfl⟩
theorem Le.trans {X Y Z:Ctx}(h:Le X Y)(k:Le Y Z):Le X Z where
 size:=Nat.le_trans h.size k.size
 os:=k.os.trans h.os
 output:=k.output.trans h.output
 M:=k.M.trans h.M
 kept:=fun B hB hn=>(k.kept B (Nat.lt_of_lt_of_le hB h.size) fun id base e=>by
  rcases h.muts id B base e with⟨id',base',e'⟩|hb
  ·exact hn _ _ e'
  ·omega).trans (h.kept B hB hn)
 muts:=fun id B base e=>by
  rcases k.muts id B base e with⟨id',base',e'⟩|hb
  ·exact h.muts _ _ _ e'
  ·exact .inr (Nat.le_trans h.size hb)
 shape:=fun B C T fr e=>by
  obtain⟨C',e',s⟩:=h.shape B C T fr e
  obtain⟨C2,e2,s2⟩:=k.shape B C' T fr e'
  exact⟨C2,e2,s2.trans s⟩
 gen:=fun id hid g cs e=>by
  obtain⟨g1,c1,e1,l1,q1⟩:=k.gen id (Nat.lt_of_lt_of_le hid h.size) g cs e
  obtain⟨g0,c0,e0,l0,q0⟩:=h.gen id hid g1 c1 e1
  exact⟨g0,c0,e0,Nat.le_trans l0 l1,fun hg=>(q1 Ll).trans (q0 Ll)⟩
 map:=fun id hid kk es e=>by
  obtain⟨kk1,es1,e1,q1⟩:=k.map id (Nat.lt_of_lt_of_le hid h.size) kk es e
  obtain⟨kk0,es0,e0,q0⟩:=h.map id hid kk1 es1 e1
  exact⟨kk0,es0,e0,q1.trans q0⟩
 loop:=fun id hid st p env ps a b e=>by
  obtain⟨⟨st1,p1,env1,ps1,a1,b1,e1⟩,q1⟩:=k.loop id (Nat.lt_of_lt_of_le hid h.size) _ _ _ _ _ _ e
  obtain⟨h0,q0⟩:=h.loop id hid _ _ _ _ _ _ e1
  exact⟨h0,q1.trans q0⟩
theorem Le.not_mut {X X':Ctx}(h:Le X X'){B:Nat}(hB:B<X.w.heap.size)(hn:¬ X.Mut B):¬ X'.Mut B:=by
 rintro(hm|⟨id,base,e⟩)
 ·exact hn (.inl (h.M ▸ hm))
 ·rcases h.muts id B base e with⟨id',base',e'⟩|hb
  ·exact hn (.inr ⟨id',base',e'⟩)
  ·omega
theorem cell?_congr {w w':World}{a:Addr}(h:w'.heap[a.block]?=w.heap[a.block]?):w'.cell? a=w.cell? a:=by
 unfold World.cell?;rw[h]
theorem ROk.le {X X':Ctx}(h:Le X X'){a:Addr}{vs:List Value}(hr:ROk X a vs):ROk X' a vs:=by
 obtain⟨h1,h2,h3,h4⟩:=hr
 refine⟨h1,Nat.lt_of_lt_of_le h2 h.size,h.not_mut h2 h3,fun j v hj=>?_⟩
 rw[cell?_congr (a:=⟨a.block,a.off+j,none⟩) (h.kept a.block h2 fun id base e=>h3 (.inr ⟨id,base,e⟩))]
 exact h4 j v hj
theorem CM.le {X X':Ctx}(h:Le X X'){id esz off lim a cap}(hk:X'.κ id=X.κ id)(ho:CM X id esz off lim a cap):CM X' id esz off lim a cap:=by
 obtain⟨B,base,C,T,h1,h2,h3,h4,h5⟩:=ho
 obtain⟨C',e',s⟩:=h.shape B C T _ h2
 exact⟨B,base,C',T,hk.trans h1,e',h3,s ▸ h4,s ▸ h5⟩
mutual
theorem VC.le {φ:Phi}{X X':Ctx}(h:Le X X'):∀ {a:AV} {v:Value},VC φ X a v→VC φ X' a v
  | _,_,.bool b => .bool b
  | _,_,.int k n => .int k n
  | _,_,.str s => .str s
  | _,_,.nilp => .nilp
  | _,_,.ptr hid hg => .ptr (Nat.lt_of_lt_of_le hid h.size) fun g' cs' e=>by
      obtain⟨g1,c1,e1,l1,q1⟩:=h.gen _ hid g' cs' e
      obtain⟨l2,q2⟩:=hg g1 c1 e1
      refine⟨Nat.le_trans l2 l1,fun hgg=>?_⟩
      obtain⟨B,base,hk,ha⟩:=q2 Ll
      exact⟨B,base,(q1 Ll).trans hk,ha⟩
  | _,_,.rp hr hc => .rp (hr.le h) (hc.le h)
  | _,_,.rd hr hc hn hf => .rd (fun hne=>let ⟨a0,e,r⟩:=hr hne;⟨a0,e,r.le h⟩) (hc.le h) hn hf
  | _,_,.own hid hl ha hg => .own (Nat.lt_of_lt_of_le hid h.size) hl ha fun g' cs' e=>by
      obtain⟨g1,c1,e1,l1,q1⟩:=h.gen _ hid g' cs' e
      obtain⟨l2,q2⟩:=hg g1 c1 e1
      exact⟨Nat.le_trans l2 l1,fun hgg=>(q2 Ll).le h (q1 Ll)⟩
  | _,_,.nilm => .nilm
  | _,_,.map hid hg => .map (Nat.lt_of_lt_of_le hid h.size) fun kk es e=>by
      obtain⟨kk1,es1,e1,q1⟩:=h.map _ hid kk es e
      exact q1.trans (hg kk1 es1 e1)
  | _,_,.fn hf hc => .fn hf (hc.le h)
  | _,_,.nilf => .nilf
  | _,_,.yield hid hg => .yield (Nat.lt_of_lt_of_le hid h.size) fun st p env ps a b e=>by
      obtain⟨⟨st1,p1,env1,ps1,a1,b1,e1⟩,q1⟩:=h.loop _ hid _ _ _ _ _ _ e
      exact q1.trans (hg _ _ _ _ _ _ e1)
  | _,_,.nili => .nili
theorem VCs.le {φ:Phi}{X X':Ctx}(h:Le X X'):∀ {as:List AV} {vs:List Value},VCs φ X as vs→VCs φ X' as vs
 | _,_,.nil => .nil
 | _,_,.cons a b => .cons (a.le h) (b.le h)
end
theorem VR.le {φ:Phi}{X X':Ctx}(h:Le X X'){a:AV}{v:Value}:VR φ X a v→VR φ X' a v
 | .one a => .one (a.le h)
 | .agg a => .agg (a.le h)
 | .undef v => .undef v
theorem VRs.le {φ:Phi}{X X':Ctx}(h:Le X X'):∀ {as:List AV} {vs:List Value},VRs φ X as vs→VRs φ X' as vs
 | _,_,.nil => .nil
 | _,_,.cons a b => .cons (a.le h) (b.le h)
theorem VT.le {φ:Phi}{X X':Ctx}(h:Le X X'){a:AV}{v:Value}:VT φ X a v→VT φ X' a v
 | .one a => .one (a.le h)
 | .tup a => .tup (a.le h)
theorem VCs.length {φ:Phi}{X:Ctx}:∀ {as:List AV} {vs:List Value},VCs φ X as vs→as.length=vs.length
 | _,_,.nil=>rfl
 | _,_,.cons _ b=>by simp[b.length]
theorem VCs.get {φ:Phi}{X:Ctx}:∀ {as:List AV} {vs:List Value},VCs φ X as vs→∀ {i:Nat} {a:AV},as[i]?=some a→∃ v,vs[i]?=some v∧VC φ X a v
 | _,_,.nil,_,_,h=>by simp at h
 | _,_,.cons (v:=v) hc b,i,a,h=>by
  cases i with
  | zero=>simp at h;subst h;exact⟨v,rfl,hc⟩
  | succ i=>simp at h;obtain⟨v',h1,h2⟩:=b.get h;exact⟨v',by simpa using h1,h2⟩
theorem VCs.append {φ:Phi}{X:Ctx}:∀ {as:List AV} {vs:List Value},VCs φ X as vs→∀ {bs ws},VCs φ X bs ws→VCs φ X (as++bs) (vs++ws)
 | _,_,.nil,_,_,h=>h
 | _,_,.cons a b,_,_,h => .cons a (b.append h)
theorem VCs.take {φ:Phi}{X:Ctx}:∀ {as:List AV} {vs:List Value},VCs φ X as vs→∀ n,VCs φ X (as.take n) (vs.take n)
 | _,_,.nil,n=>by simpa using VCs.nil
 | _,_,.cons a b,n=>by
  cases n with
  | zero=>simpa using VCs.nil
  | succ n=>simpa using VCs.cons a (b.take n)
theorem VCs.drop {φ:Phi}{X:Ctx}:∀ {as:List AV} {vs:List Value},VCs φ X as vs→∀ n,VCs φ X (as.drop n) (vs.drop n)
 | _,_,.nil,n=>by simpa using VCs.nil
 | _,_,.cons a b,n=>by
  cases n with
  | zero=>simpa using VCs.cons a b
  | succ n=>simpa using b.drop n
theorem VCs.replicate {φ:Phi}{X:Ctx}{zs:List AV}{ys:List Value}(h:VCs φ X zs ys):∀ n,VCs φ X (List.replicate n zs).flatten (List.replicate n ys).flatten
 | 0=>by simpa using VCs.nil
 | n+1=>by simpa[List.replicate_succ] using h.append (h.replicate n)
def cF (vs:List Value)(off:Nat)(ws:List Value):List Value:=vs.take off++ws++vs.drop (off+ws.length)
theorem VCs.put {φ:Phi}{X:Ctx}{as bs:List AV}{vs ws:List Value}(h:VCs φ X as vs)(k:VCs φ X bs ws)(off:Nat)(hl:off+bs.length≤as.length):VCs φ X (putCells as off bs) (cF vs off ws):=by
 have hg:VCs φ X (as.take off++bs++as.drop (off+bs.length)) (cF vs off ws):=by
  unfold cF
  rw[← k.length]
  exact((h.take off).append k).append (h.drop _)
 unfold putCells
 split
 ·rename_i b
  cases k with
  | cons hb hn =>
   cases hn
   have:as.set off b=as.take off++[b]++as.drop (off+1):=by
    simp at hl
    rw[List.set_eq_take_append_cons_drop,if_pos Ll]
    simp
   rw[this]
   exact hg
 ·exact hg
theorem VC.oneCell {φ:Phi}{X:Ctx}{a:AV}{v:Value}(h:VC φ X a v):v.oneCell'=true:=by cases h<;>rfl
theorem VC.cells {φ:Phi}{X:Ctx}{a:AV}{v:Value}(h:VC φ X a v):v.cells=#[v]:=by cases h<;>rfl
theorem VC.acells {φ:Phi}{X:Ctx}{a:AV}{v:Value}(h:VC φ X a v):a.cells=[a]:=by cases h<;>rfl
theorem VCs.oneCell {φ:Phi}{X:Ctx}:∀ {as:List AV} {vs:List Value},VCs φ X as vs→∀ v∈vs,v.oneCell'=true
 | _,_,.nil,_,h=>by simp at h
 | _,_,.cons a b,v,h=>by
  rcases List.mem_cons.1 h with rfl|h
  ·exact a.oneCell
  ·exact b.oneCell v h
theorem VR.cells {φ:Phi}{X:Ctx}{a:AV}{v:Value}(h:VR φ X a v)(hu:a ≠ .undef):VCs φ X a.cells v.cells.toList:=by
 cases h with
 | one h=>rw[h.cells,h.acells];exact .cons h .nil
 | agg h=>simpa[AV.cells,Value.cells] using h
 | undef=>exact absurd rfl hu
inductive mj (φ:Phi) (X:Ctx) (kk:Option IntKind):List (AV×AV)→List MapEntry→Prop
 | nil:mj φ X kk [] []
 | cons {k x e es fs}:VC φ X k e.key→kc kk k=true→VR φ X x e.val→mj φ X kk es fs→mj φ X kk ((k,x)::es) (e::fs)
theorem mj.le {φ:Phi}{X X':Ctx}(h:Le X X'){kk:Option IntKind}:∀ {es fs},mj φ X kk es fs→mj φ X' kk es fs
 | _,_,.nil => .nil
 | _,_,.cons a b c d => .cons (a.le h) b (c.le h) (d.le h)
structure rt (φ:Phi)(X:Ctx)(kk:Option IntKind)(es:List (AV×AV))(ents:Array MapEntry)(clock:Nat):Prop where
 e:mj φ X kk es ents.toList
 s:MapKept.Stamped ents clock
theorem rt.le {φ:Phi}{X X':Ctx}(h:Le X X'){kk:Option IntKind}{es:List (AV×AV)}{ents:Array MapEntry}{clock:Nat}(k:rt φ X kk es ents clock):rt φ X' kk es ents clock:=⟨k.e.le h,k.s⟩
def p8:Option Ex→Option Code→Prop
 | none,none=>True
 | some (.exit i),some (.exit j)=>i=j
 | some .ret,some .ret=>True
 | _,_=>False
structure yI (φ:Phi)(X:Ctx)(B:Nat)(st:LoopState)(p:Option Ex)(env:Env)(ps:List Nat)(a b:gk):Prop where
 ex:∃ R:Loop,X.w.heap[B]?=some (.loop R)∧R.state=st∧p8 p R.pending∧R.params.toList=ps∧(∀ t,VT φ X (env t) (R.tmps.getD t (.tuple #[])))∧(∃ m,m≤R.tmps.size∧(∀ t∈ps,t<m)∧φ.code m R.assign a∧φ.code m R.body b)
theorem yI.le {φ:Phi}{X X':Ctx}(h:Le X X'){B:Nat}{st p env ps a b}(hB:X'.w.heap[B]?=X.w.heap[B]?)(hl:yI φ X B st p env ps a b):yI φ X' B st p env ps a b:=by
 obtain⟨R,k1,k2,k3,k4,k5,k6⟩:=hl.ex
 exact⟨R,hB.trans k1,k2,k3,k4,fun t=>(k5 t).le h,k6⟩
structure bE (φ:Phi)(X:Ctx):Prop where
 cells:∀ id g cs,X.h.get id=some (.cells g cs)→∃ B base C T vs,X.κ id=some (B,base)∧X.w.heap[B]?=some (.cells C T (0,0))∧base+cs.length≤C.size∧VCs φ X cs vs∧∀ j v,vs[j]?=some v→C[base+j]?=some v
 maps:∀ id kk es,X.h.get id=some (.map kk es)→∃ B ents clock,X.κ id=some (B,0)∧X.w.heap[B]?=some (.map ents clock)∧rt φ X kk es ents clock
 loops:∀ id st p env ps a b,X.h.get id=some (.loop st p env ps a b)→∃ B,X.κ id=some (B,0)∧yI φ X B st p env ps a b
 inj:∀ id id' B base base',X.κ id=some (B,base)→X.κ id'=some (B,base')→id=id'
 dom:∀ id B base,X.κ id=some (B,base)→B<X.w.heap.size∧¬ X.M B∧∃ o,X.h.get id=some o
 ids:∀ id o,X.h.get id=some o→id<X.w.heap.size
 mine:∀ B,X.M B→B<X.w.heap.size
 zero:∀ id cs,X.h.get id=some (.cells 0 cs)→∃ B,X.κ id=some (B,0)
structure Rel (φ:Phi)(n bs:Nat)(X:Ctx)(env:Env)(a:Act):Prop where
 tmps:∀ t,VT φ X (env t) (a.tmps.getD t undef)
 size:n≤a.tmps.size
 defers:∀ d∈a.defers,∃ D,d={ target := .collected D,args:=#[] }∧bs≤D∧X.w.heap[D]?=some (.deferred (some []))∧¬ X.Mut D
 apart:a.defers.Nodup
 base:bs≤X.w.heap.size
 heap:bE φ X
theorem Rel.le {φ n bs X X' env a}(h:Rel φ n bs X env a)(hl:Le X X')(hh:bE φ X'):Rel φ n bs X' env a :=
 ⟨fun t=>(h.tmps t).le hl,h.size,fun d hd=>by
  obtain⟨D,k1,k2,k3,k4⟩:=h.defers d hd
  have hD:=(Array.getElem?_eq_some_iff.1 k3).1
  exact⟨D,k1,k2,(hl.kept D hD fun id base e=>k4 (.inr ⟨id,base,e⟩)).trans k3,hl.not_mut hD k4⟩,h.apart,Nat.le_trans h.base hl.size,hh⟩
theorem Rel.put {φ n bs X env a}(h:Rel φ n bs X env a){t:Nat}(ht:t<n){x:AV}{v:Value}(hv:VT φ X x v):Rel φ n bs X (env.put t x) { a with tmps:=a.tmps.setIfInBounds t v }:=by
 refine⟨fun i=>?_,by simpa using h.size,h.defers,h.apart,h.base,h.heap⟩
 unfold Env.put
 by_cases hi:i=t
 ·subst hi
  have hs:=h.size
  rw[if_pos rfl,show(a.tmps.setIfInBounds i v).getD i undef=v by simp[Array.getD,show i<a.tmps.size by omega]]
  exact hv
 ·rw[if_neg hi,show(a.tmps.setIfInBounds t v).getD i undef=a.tmps.getD i undef by
   simp only[Array.getD_eq_getD_getElem?,Array.getElem?_setIfInBounds_ne (Ne.symm hi)]]
  exact h.tmps i
theorem Rel.putDst {φ n bs X env a}(h:Rel φ n bs X env a){t:Option Nat}(ht:∀ i,t=some i→i<n){x:AV}{v:Value}(hv:VT φ X x v):Rel φ n bs X (putDst env t x) (a.put t v):=by
 cases t with
 | none=>exact h
 | some t=>exact h.put (ht t rfl) hv
theorem bE.update {φ:Phi}{X:Ctx}(hX:bE φ X){id g':Nat}{cs':List AV}{B base:Nat}{w':World}{C':Array Value}{T:TypeId}{vs:List Value}
  (hs:X.w.heap.size≤w'.heap.size) (hos:w'.os=X.w.os) (hout:w'.output=X.w.output) (hkept:∀ i,i<X.w.heap.size→i≠B→w'.heap[i]?=X.w.heap[i]?)
  (hB:w'.heap[B]?=some (.cells C' T (0,0)))
  (hid:id<w'.heap.size)
  (hcase:(∃ g cs base0 C,X.h.get id=some (.cells g cs)∧X.κ id=some (B,base0)∧X.w.heap[B]?=some (.cells C T (0,0))∧C'.size=C.size∧g≤g'∧(g=g'→base=base0)) ∨
   (X.w.heap.size≤B∧((∃ g cs,X.h.get id=some (.cells g cs)∧g<g')∨(X.w.heap.size≤id∧base=0))))
  (hlen:base+cs'.length≤C'.size) (hvs:VCs φ X cs' vs) (hc:∀ j v,vs[j]?=some v→C'[base+j]?=some v) :
  Le X ⟨fun i=>if i=id then some (B,base) else X.κ i,X.h.set id (.cells g' cs'),w',X.M⟩∧bE φ ⟨fun i=>if i=id then some (B,base) else X.κ i,X.h.set id (.cells g' cs'),w',X.M⟩:=by
 have hBlt:B<w'.heap.size:=(Array.getElem?_eq_some_iff.1 hB).1
 have hle:Le X ⟨fun i=>if i=id then some (B,base) else X.κ i,X.h.set id (.cells g' cs'),w',X.M⟩:={
  size:=hs
  os:=hos
  output:=hout
  M:=rfl
  kept:=fun i hi hn=>by
   refine hkept i hi ?_
   rintro rfl
   rcases hcase with⟨_,_,base0,_,_,hk,_⟩|⟨hb,_⟩
   ·exact hn _ _ hk
   ·omega
  muts:=fun i B2 base2 e=>by
   dsimp only at e
   by_cases hi:i=id
   ·rw[if_pos hi]at e
    injection e with e
    injection e with e1 _
    subst e1
    rcases hcase with⟨_,_,base0,_,_,hk,_⟩|⟨hb,_⟩
    ·exact .inl ⟨id,base0,hk⟩
    ·exact .inr hb
   ·rw[if_neg hi]at e
    exact .inl ⟨i,base2,e⟩
  shape:=fun i C2 T2 fr e=>by
   have hi:i<X.w.heap.size:=(Array.getElem?_eq_some_iff.1 e).1
   by_cases hb:i=B
   ·subst hb
    rcases hcase with⟨_,_,_,C,_,_,h0,hsz,_⟩|⟨hb,_⟩
    ·rw[h0]at e
     injection e with e
     injection e with e1 e2 e3
     subst e1 e2 e3
     exact⟨C',hB,hsz⟩
    ·omega
   ·exact⟨C2,(hkept i hi hb).trans e,rfl⟩
  gen:=fun i hi g2 cs2 e=>by
   dsimp only [ad.set]at e
   by_cases h2:i=id
   ·rw[if_pos h2]at e
    injection e with e
    injection e with e1 e2
    subst e1 h2
    rcases hcase with⟨g,cs,base0,_,hg,hk,_,_,hgg,hbb⟩|⟨_,⟨g,cs,hg,hgg⟩|⟨hb,_⟩⟩
    ·exact⟨g,cs,hg,hgg,fun e=>by simp only[if_true];rw[hk,hbb e]⟩
    ·exact⟨g,cs,hg,Nat.le_of_lt hgg,fun e=>absurd e Ll⟩
    ·omega
   ·rw[if_neg h2]at e
    exact⟨g2,cs2,e,Nat.le_refl _,fun _=>by simp only[if_neg h2]⟩
  map:=fun i hi kk0 es e=>by
   dsimp only [ad.set]at e
   by_cases h2:i=id
   ·rw[if_pos h2]at e;cases e
   ·rw[if_neg h2]at e
    exact⟨kk0,es,e,by simp only[if_neg h2]⟩
  loop:=fun i hi st p env ps a b e=>by
   dsimp only [ad.set]at e
   by_cases h2:i=id
   ·rw[if_pos h2]at e;cases e
   ·rw[if_neg h2]at e
    exact⟨⟨st,p,env,ps,a,b,e⟩,by simp only[if_neg h2]⟩ }
 have hBne:∀ i base2,i≠id→X.κ i≠some (B,base2):=fun i base2 hi e=>by
  rcases hcase with⟨_,_,base0,_,_,hk,_⟩|⟨hb,_⟩
  ·exact hi (hX.inj _ _ _ _ _ e hk)
  ·have:=(hX.dom _ _ _ e).1
   omega
 refine⟨hle,{ cells:=?_,maps:=?_,loops:=?_,inj:=?_,dom:=?_,ids:=?_,mine:=?_,zero:=?_ }⟩
 ·intro i g cs e
  dsimp only [ad.set]at e
  by_cases h2:i=id
  ·rw[if_pos h2]at e
   injection e with e
   injection e with e1 e2
   subst e1 e2
   exact⟨B,base,C',T,vs,by simp only[h2,if_true],hB,hlen,hvs.le hle,hc⟩
  ·rw[if_neg h2]at e
   obtain⟨B2,base2,C2,T2,vs2,k1,k2,k3,k4,k5⟩:=hX.cells i g cs e
   have hb:B2≠B:=fun hb=>hBne i base2 h2 (hb ▸ k1)
   exact⟨B2,base2,C2,T2,vs2,by simp only[if_neg h2];exact k1,(hkept B2 (hX.dom _ _ _ k1).1 hb).trans k2,k3,k4.le hle,k5⟩
 ·intro i kk0 es e
  dsimp only [ad.set]at e
  by_cases h2:i=id
  ·rw[if_pos h2]at e;cases e
  ·rw[if_neg h2]at e
   obtain⟨B2,ents,clock,k1,k2,k3⟩:=hX.maps i kk0 es e
   have hb:B2≠B:=fun hb=>hBne i 0 h2 (hb ▸ k1)
   exact⟨B2,ents,clock,by simp only[if_neg h2];exact k1,(hkept B2 (hX.dom _ _ _ k1).1 hb).trans k2,k3.le hle⟩
 ·intro i st p env ps a b e
  dsimp only [ad.set]at e
  by_cases h2:i=id
  ·rw[if_pos h2]at e;cases e
  ·rw[if_neg h2]at e
   obtain⟨B2,k1,k2⟩:=hX.loops i _ _ _ _ _ _ e
   have hb:B2≠B:=fun hb=>hBne i 0 h2 (hb ▸ k1)
   exact⟨B2,by simp only[if_neg h2];exact k1,k2.le hle (hkept B2 (hX.dom _ _ _ k1).1 hb)⟩
 ·intro i j B2 b1 b2 e1 e2
  dsimp only at e1 e2
  by_cases h1:i=id<;>by_cases h2:j=id
  ·rw[h1,h2]
  ·rw[if_pos h1]at e1
   rw[if_neg h2]at e2
   injection e1 with e1
   injection e1 with e1 _
   subst e1
   exact absurd e2 (hBne _ _ h2)
  ·rw[if_neg h1]at e1
   rw[if_pos h2]at e2
   injection e2 with e2
   injection e2 with e2 _
   subst e2
   exact absurd e1 (hBne _ _ h1)
  ·rw[if_neg h1]at e1
   rw[if_neg h2]at e2
   exact hX.inj _ _ _ _ _ e1 e2
 ·intro i B2 b2 e
  dsimp only at e
  by_cases h2:i=id
  ·rw[if_pos h2]at e
   injection e with e
   injection e with e1 _
   subst e1
   refine⟨hBlt,?_,by simp[ad.set,h2]⟩
   rcases hcase with⟨_,_,base0,_,_,hk,_⟩|⟨hb,_⟩
   ·exact(hX.dom _ _ _ hk).2.1
   ·exact fun hm=>by have:=hX.mine _ hm;omega
  ·rw[if_neg h2]at e
   obtain⟨k1,k2,o,k3⟩:=hX.dom _ _ _ e
   exact⟨Nat.lt_of_lt_of_le k1 hs,k2,o,by simp only[ad.set,if_neg h2];exact k3⟩
 ·intro i o e
  dsimp only [ad.set]at e
  by_cases h2:i=id
  ·rw[h2];exact hid
  ·rw[if_neg h2]at e
   exact Nat.lt_of_lt_of_le (hX.ids _ _ e) hs
 ·exact fun i hi=>Nat.lt_of_lt_of_le (hX.mine i hi) hs
 ·intro i cs e
  dsimp only [ad.set]at e
  by_cases h2:i=id
  ·rw[if_pos h2]at e
   injection e with e
   injection e with e1 e2
   refine⟨B,?_⟩
   simp only[h2,if_true]
   rcases hcase with⟨g,cs0,base0,_,hg,hk,_,_,hgg,hbb⟩|⟨_,⟨g,cs0,hg,hgg⟩|⟨_,hb⟩⟩
   ·have hg0:g=0:=by omega
    subst hg0
    obtain⟨B0,h0⟩:=hX.zero _ _ hg
    rw[hk]at h0
    injection h0 with h0
    injection h0 with _ h0
    rw[hbb e1.symm,h0]
   ·omega
   ·rw[hb]
  ·rw[if_neg h2]at e
   simp only[if_neg h2]
   exact hX.zero _ _ e
theorem bE.fresh {φ:Phi}{X:Ctx}(hX:bE φ X):X.h.get X.w.heap.size=none:=by
 cases e:X.h.get X.w.heap.size with
 | none=>rfl
 | some o=>exact absurd (hX.ids _ _ e) (Nat.lt_irrefl _)
theorem bE.turn {φ:Phi}{X:Ctx}(hX:bE φ X){w':World}(hh:w'.heap=X.w.heap)(hos:w'.os=X.w.os)(hout:w'.output=X.w.output) :
  Le X { X with w:=w' }∧bE φ { X with w:=w' }:=by
 have hle:Le X { X with w:=w' }:={
  size:=by rw[hh];exact Nat.le_refl _
  os:=hos
  output:=hout
  M:=rfl
  kept:=fun _ _ _=>by rw[hh]
  muts:=fun id B base e => .inl ⟨id,base,e⟩
  shape:=fun B C T fr e=>⟨C,by rw[hh];exact e,rfl⟩
  gen:=fun id _ g cs e=>⟨g,cs,e,Nat.le_refl _,fun _=>rfl⟩
  map:=fun id _ kk es e=>⟨kk,es,e,rfl⟩
  loop:=fun id _ st p env ps a b e=>⟨⟨st,p,env,ps,a,b,e⟩,rfl⟩ }
 refine⟨hle,⟨fun id g cs e=>?_,fun id kk es e=>?_,fun id st p env ps a b e=>?_,hX.inj,fun id B base e=>?_,fun id o e=>?_,fun B hb=>?_,hX.zero⟩⟩
 ·obtain⟨B,base,C,T,vs,k1,k2,k3,k4,k5⟩:=hX.cells id g cs e
  exact⟨B,base,C,T,vs,k1,by rw[hh];exact k2,k3,k4.le hle,k5⟩
 ·obtain⟨B,ents,clock,k1,k2,k3⟩:=hX.maps id kk es e
  exact⟨B,ents,clock,k1,by rw[hh];exact k2,k3.le hle⟩
 ·obtain⟨B,k1,k2⟩:=hX.loops id _ _ _ _ _ _ e
  exact⟨B,k1,k2.le hle (by rw[hh])⟩
 ·have:=hX.dom id B base e
  exact⟨by rw[hh];exact this.1,this.2⟩
 ·rw[hh];exact hX.ids id o e
 ·rw[hh];exact hX.mine B hb
theorem bE.updateMap {φ:Phi}{X:Ctx}(hX:bE φ X){id:Nat}{kk:Option IntKind}{es':List (AV×AV)}{B:Nat}{w':World}{ents:Array MapEntry}{clock:Nat}
  (hs:X.w.heap.size≤w'.heap.size) (hos:w'.os=X.w.os) (hout:w'.output=X.w.output) (hkept:∀ i,i<X.w.heap.size→i≠B→w'.heap[i]?=X.w.heap[i]?)
  (hB:w'.heap[B]?=some (.map ents clock)) (hid:id<w'.heap.size)
  (hcase:(∃ es ents0 clock0,X.h.get id=some (.map kk es)∧X.κ id=some (B,0)∧X.w.heap[B]?=some (.map ents0 clock0))∨(X.w.heap.size≤B∧X.w.heap.size≤id))
  (hvs:rt φ X kk es' ents clock) :
  Le X ⟨fun i=>if i=id then some (B,0) else X.κ i,X.h.set id (.map kk es'),w',X.M⟩∧bE φ ⟨fun i=>if i=id then some (B,0) else X.κ i,X.h.set id (.map kk es'),w',X.M⟩:=by
 have hBlt:B<w'.heap.size:=(Array.getElem?_eq_some_iff.1 hB).1
 have hle:Le X ⟨fun i=>if i=id then some (B,0) else X.κ i,X.h.set id (.map kk es'),w',X.M⟩:={
  size:=hs
  os:=hos
  output:=hout
  M:=rfl
  kept:=fun i hi hn=>by
   refine hkept i hi ?_
   rintro rfl
   rcases hcase with⟨_,_,_,_,hk,_⟩|⟨hb,_⟩
   ·exact hn _ _ hk
   ·omega
  muts:=fun i B2 base2 e=>by
   dsimp only at e
   by_cases hi:i=id
   ·rw[if_pos hi]at e
    injection e with e
    injection e with e1 _
    subst e1
    rcases hcase with⟨_,_,_,_,hk,_⟩|⟨hb,_⟩
    ·exact .inl ⟨id,0,hk⟩
    ·exact .inr hb
   ·rw[if_neg hi]at e
    exact .inl ⟨i,base2,e⟩
  shape:=fun i C2 T2 fr e=>by
   have hi:i<X.w.heap.size:=(Array.getElem?_eq_some_iff.1 e).1
   by_cases hb:i=B
   ·subst hb
    rcases hcase with⟨_,_,_,_,_,h0⟩|⟨hb,_⟩
    ·rw[h0]at e;cases e
    ·omega
   ·exact⟨C2,(hkept i hi hb).trans e,rfl⟩
  gen:=fun i hi g2 cs2 e=>by
   dsimp only [ad.set]at e
   by_cases h2:i=id
   ·rw[if_pos h2]at e;cases e
   ·rw[if_neg h2]at e
    exact⟨g2,cs2,e,Nat.le_refl _,fun _=>by simp only[if_neg h2]⟩
  map:=fun i hi kk0 es e=>by
   dsimp only [ad.set]at e
   by_cases h2:i=id
   ·subst h2
    rcases hcase with⟨es0,_,_,hg,hk,_⟩|⟨_,hb⟩
    ·exact⟨kk,es0,hg,by simp only[if_true];exact hk.symm⟩
    ·omega
   ·rw[if_neg h2]at e
    exact⟨kk0,es,e,by simp only[if_neg h2]⟩
  loop:=fun i hi st p env ps a b e=>by
   dsimp only [ad.set]at e
   by_cases h2:i=id
   ·rw[if_pos h2]at e;cases e
   ·rw[if_neg h2]at e
    exact⟨⟨st,p,env,ps,a,b,e⟩,by simp only[if_neg h2]⟩ }
 have hBne:∀ i base2,i≠id→X.κ i≠some (B,base2):=fun i base2 hi e=>by
  rcases hcase with⟨_,_,_,_,hk,_⟩|⟨hb,_⟩
  ·exact hi (hX.inj _ _ _ _ _ e hk)
  ·have:=(hX.dom _ _ _ e).1
   omega
 refine⟨hle,{ cells:=?_,maps:=?_,loops:=?_,inj:=?_,dom:=?_,ids:=?_,mine:=?_,zero:=?_ }⟩
 ·intro i g cs e
  dsimp only [ad.set]at e
  by_cases h2:i=id
  ·rw[if_pos h2]at e;cases e
  ·rw[if_neg h2]at e
   obtain⟨B2,base2,C2,T2,vs2,k1,k2,k3,k4,k5⟩:=hX.cells i g cs e
   have hb:B2≠B:=fun hb=>hBne i base2 h2 (hb ▸ k1)
   exact⟨B2,base2,C2,T2,vs2,by simp only[if_neg h2];exact k1,(hkept B2 (hX.dom _ _ _ k1).1 hb).trans k2,k3,k4.le hle,k5⟩
 ·intro i kk0 es e
  dsimp only [ad.set]at e
  by_cases h2:i=id
  ·rw[if_pos h2]at e
   injection e with e
   injection e with e0 e
   subst e0 e
   exact⟨B,ents,clock,by simp only[h2,if_true],hB,hvs.le hle⟩
  ·rw[if_neg h2]at e
   obtain⟨B2,ents2,clock2,k1,k2,k3⟩:=hX.maps i kk0 es e
   have hb:B2≠B:=fun hb=>hBne i 0 h2 (hb ▸ k1)
   exact⟨B2,ents2,clock2,by simp only[if_neg h2];exact k1,(hkept B2 (hX.dom _ _ _ k1).1 hb).trans k2,k3.le hle⟩
 ·intro i st p env ps a b e
  dsimp only [ad.set]at e
  by_cases h2:i=id
  ·rw[if_pos h2]at e;cases e
  ·rw[if_neg h2]at e
   obtain⟨B2,k1,k2⟩:=hX.loops i _ _ _ _ _ _ e
   have hb:B2≠B:=fun hb=>hBne i 0 h2 (hb ▸ k1)
   exact⟨B2,by simp only[if_neg h2];exact k1,k2.le hle (hkept B2 (hX.dom _ _ _ k1).1 hb)⟩
 ·intro i j B2 b1 b2 e1 e2
  dsimp only at e1 e2
  by_cases h1:i=id<;>by_cases h2:j=id
  ·rw[h1,h2]
  ·rw[if_pos h1]at e1
   rw[if_neg h2]at e2
   injection e1 with e1
   injection e1 with e1 _
   subst e1
   exact absurd e2 (hBne _ _ h2)
  ·rw[if_neg h1]at e1
   rw[if_pos h2]at e2
   injection e2 with e2
   injection e2 with e2 _
   subst e2
   exact absurd e1 (hBne _ _ h1)
  ·rw[if_neg h1]at e1
   rw[if_neg h2]at e2
   exact hX.inj _ _ _ _ _ e1 e2
 ·intro i B2 b2 e
  dsimp only at e
  by_cases h2:i=id
  ·rw[if_pos h2]at e
   injection e with e
   injection e with e1 _
   subst e1
   refine⟨hBlt,?_,by simp[ad.set,h2]⟩
   rcases hcase with⟨_,_,_,_,hk,_⟩|⟨hb,_⟩
   ·exact(hX.dom _ _ _ hk).2.1
   ·exact fun hm=>by have:=hX.mine _ hm;omega
  ·rw[if_neg h2]at e
   obtain⟨k1,k2,o,k3⟩:=hX.dom _ _ _ e
   exact⟨Nat.lt_of_lt_of_le k1 hs,k2,o,by simp only[ad.set,if_neg h2];exact k3⟩
 ·intro i o e
  dsimp only [ad.set]at e
  by_cases h2:i=id
  ·rw[h2];exact hid
  ·rw[if_neg h2]at e
   exact Nat.lt_of_lt_of_le (hX.ids _ _ e) hs
 ·exact fun i hi=>Nat.lt_of_lt_of_le (hX.mine i hi) hs
 ·intro i cs e
  dsimp only [ad.set]at e
  by_cases h2:i=id
  ·rw[if_pos h2]at e;cases e
  ·rw[if_neg h2]at e
   simp only[if_neg h2]
   exact hX.zero _ _ e
theorem bE.updateLoop {φ:Phi}{X:Ctx}(hX:bE φ X){id:Nat}{st':LoopState}{p':Option Ex}{env':Env}{ps':List Nat}{a' b':gk}{B:Nat}{w':World}{R':Loop}
  (hs:X.w.heap.size≤w'.heap.size) (hos:w'.os=X.w.os) (hout:w'.output=X.w.output) (hkept:∀ i,i<X.w.heap.size→i≠B→w'.heap[i]?=X.w.heap[i]?)
  (hB:w'.heap[B]?=some (.loop R')) (hid:id<w'.heap.size)
  (hcase:(∃ st p env ps a b R0,X.h.get id=some (.loop st p env ps a b)∧X.κ id=some (B,0)∧X.w.heap[B]?=some (.loop R0))∨(X.w.heap.size≤B∧X.w.heap.size≤id))
  (hst:R'.state=st') (hpend:p8 p' R'.pending) (hps:R'.params.toList=ps') (htm:∀ t,VT φ X (env' t) (R'.tmps.getD t (.tuple #[]))) (hcode:∃ m,m≤R'.tmps.size∧(∀ t∈ps',t<m)∧φ.code m R'.assign a'∧φ.code m R'.body b') :
  Le X ⟨fun i=>if i=id then some (B,0) else X.κ i,X.h.set id (.loop st' p' env' ps' a' b'),w',X.M⟩∧bE φ ⟨fun i=>if i=id then some (B,0) else X.κ i,X.h.set id (.loop st' p' env' ps' a' b'),w',X.M⟩:=by
 have hBlt:B<w'.heap.size:=(Array.getElem?_eq_some_iff.1 hB).1
 have hle:Le X ⟨fun i=>if i=id then some (B,0) else X.κ i,X.h.set id (.loop st' p' env' ps' a' b'),w',X.M⟩:={
  size:=hs
  os:=hos
  output:=hout
  M:=rfl
  kept:=fun i hi hn=>by
   refine hkept i hi ?_
   rintro rfl
   rcases hcase with⟨_,_,_,_,_,_,_,_,hk,_⟩|⟨hb,_⟩
   ·exact hn _ _ hk
   ·omega
  muts:=fun i B2 base2 e=>by
   dsimp only at e
   by_cases hi:i=id
   ·rw[if_pos hi]at e
    injection e with e
    injection e with e1 _
    subst e1
    rcases hcase with⟨_,_,_,_,_,_,_,_,hk,_⟩|⟨hb,_⟩
    ·exact .inl ⟨id,0,hk⟩
    ·exact .inr hb
   ·rw[if_neg hi]at e
    exact .inl ⟨i,base2,e⟩
  shape:=fun i C2 T2 fr e=>by
   have hi:i<X.w.heap.size:=(Array.getElem?_eq_some_iff.1 e).1
   by_cases hb:i=B
   ·subst hb
    rcases hcase with⟨_,_,_,_,_,_,_,_,_,h0⟩|⟨hb,_⟩
    ·rw[h0]at e;cases e
    ·omega
   ·exact⟨C2,(hkept i hi hb).trans e,rfl⟩
  gen:=fun i hi g2 cs2 e=>by
   dsimp only [ad.set]at e
   by_cases h2:i=id
   ·rw[if_pos h2]at e;cases e
   ·rw[if_neg h2]at e
    exact⟨g2,cs2,e,Nat.le_refl _,fun _=>by simp only[if_neg h2]⟩
  map:=fun i hi kk0 es e=>by
   dsimp only [ad.set]at e
   by_cases h2:i=id
   ·rw[if_pos h2]at e;cases e
   ·rw[if_neg h2]at e
    exact⟨kk0,es,e,by simp only[if_neg h2]⟩
  loop:=fun i hi st p env ps a b e=>by
   dsimp only [ad.set]at e
   by_cases h2:i=id
   ·subst h2
    rcases hcase with⟨st0,p0,env0,ps0,a0,b0,_,hg,hk,_⟩|⟨_,hb⟩
    ·exact⟨⟨st0,p0,env0,ps0,a0,b0,hg⟩,by simp only[if_true];exact hk.symm⟩
    ·omega
   ·rw[if_neg h2]at e
    exact⟨⟨st,p,env,ps,a,b,e⟩,by simp only[if_neg h2]⟩ }
 have hBne:∀ i base2,i≠id→X.κ i≠some (B,base2):=fun i base2 hi e=>by
  rcases hcase with⟨_,_,_,_,_,_,_,_,hk,_⟩|⟨hb,_⟩
  ·exact hi (hX.inj _ _ _ _ _ e hk)
  ·have:=(hX.dom _ _ _ e).1
   omega
 refine⟨hle,{ cells:=?_,maps:=?_,loops:=?_,inj:=?_,dom:=?_,ids:=?_,mine:=?_,zero:=?_ }⟩
 ·intro i g cs e
  dsimp only [ad.set]at e
  by_cases h2:i=id
  ·rw[if_pos h2]at e;cases e
  ·rw[if_neg h2]at e
   obtain⟨B2,base2,C2,T2,vs2,k1,k2,k3,k4,k5⟩:=hX.cells i g cs e
   have hb:B2≠B:=fun hb=>hBne i base2 h2 (hb ▸ k1)
   exact⟨B2,base2,C2,T2,vs2,by simp only[if_neg h2];exact k1,(hkept B2 (hX.dom _ _ _ k1).1 hb).trans k2,k3,k4.le hle,k5⟩
 ·intro i kk0 es e
  dsimp only [ad.set]at e
  by_cases h2:i=id
  ·rw[if_pos h2]at e;cases e
  ·rw[if_neg h2]at e
   obtain⟨B2,ents2,clock2,k1,k2,k3⟩:=hX.maps i kk0 es e
   have hb:B2≠B:=fun hb=>hBne i 0 h2 (hb ▸ k1)
   exact⟨B2,ents2,clock2,by simp only[if_neg h2];exact k1,(hkept B2 (hX.dom _ _ _ k1).1 hb).trans k2,k3.le hle⟩
 ·intro i st p env ps a b e
  dsimp only [ad.set]at e
  by_cases h2:i=id
  ·rw[if_pos h2]at e
   injection e with e
   injection e with e1 e2 e3 e4 e5 e6
   subst e1 e2 e3 e4 e5 e6
   exact⟨B,by simp only[h2,if_true],R',hB,hst,hpend,hps,fun t=>(htm t).le hle,hcode⟩
  ·rw[if_neg h2]at e
   obtain⟨B2,k1,k2⟩:=hX.loops i _ _ _ _ _ _ e
   have hb:B2≠B:=fun hb=>hBne i 0 h2 (hb ▸ k1)
   exact⟨B2,by simp only[if_neg h2];exact k1,k2.le hle (hkept B2 (hX.dom _ _ _ k1).1 hb)⟩
 ·intro i j B2 b1 b2 e1 e2
  dsimp only at e1 e2
  by_cases h1:i=id<;>by_cases h2:j=id
  ·rw[h1,h2]
  ·rw[if_pos h1]at e1
   rw[if_neg h2]at e2
   injection e1 with e1
   injection e1 with e1 _
   subst e1
   exact absurd e2 (hBne _ _ h2)
  ·rw[if_neg h1]at e1
   rw[if_pos h2]at e2
   injection e2 with e2
   injection e2 with e2 _
   subst e2
   exact absurd e1 (hBne _ _ h1)
  ·rw[if_neg h1]at e1
   rw[if_neg h2]at e2
   exact hX.inj _ _ _ _ _ e1 e2
 ·intro i B2 b2 e
  dsimp only at e
  by_cases h2:i=id
  ·rw[if_pos h2]at e
   injection e with e
   injection e with e1 _
   subst e1
   refine⟨hBlt,?_,by simp[ad.set,h2]⟩
   rcases hcase with⟨_,_,_,_,_,_,_,_,hk,_⟩|⟨hb,_⟩
   ·exact(hX.dom _ _ _ hk).2.1
   ·exact fun hm=>by have:=hX.mine _ hm;omega
  ·rw[if_neg h2]at e
   obtain⟨k1,k2,o,k3⟩:=hX.dom _ _ _ e
   exact⟨Nat.lt_of_lt_of_le k1 hs,k2,o,by simp only[ad.set,if_neg h2];exact k3⟩
 ·intro i o e
  dsimp only [ad.set]at e
  by_cases h2:i=id
  ·rw[h2];exact hid
  ·rw[if_neg h2]at e
   exact Nat.lt_of_lt_of_le (hX.ids _ _ e) hs
 ·exact fun i hi=>Nat.lt_of_lt_of_le (hX.mine i hi) hs
 ·intro i cs e
  dsimp only [ad.set]at e
  by_cases h2:i=id
  ·rw[if_pos h2]at e;cases e
  ·rw[if_neg h2]at e
   simp only[if_neg h2]
   exact hX.zero _ _ e
theorem bE.grow {φ:Phi}{X:Ctx}(hX:bE φ X){w':World}(hs:X.w.heap.size≤w'.heap.size)(hk:∀ B,B<X.w.heap.size→w'.heap[B]?=X.w.heap[B]?)(hos:w'.os=X.w.os)(hout:w'.output=X.w.output):Le X { X with w:=w' }∧bE φ { X with w:=w' }:=by
 have hle:Le X { X with w:=w' }:={
  size:=hs
  os:=hos
  output:=hout
  M:=rfl
  kept:=fun B hB _=>hk B hB
  muts:=fun id B base e => .inl ⟨id,base,e⟩
  shape:=fun B C2 T2 fr e=>⟨C2,by rw[← e];exact hk B (Array.getElem?_eq_some_iff.1 e).1,rfl⟩
  gen:=fun id _ g cs e=>⟨g,cs,e,Nat.le_refl _,fun _=>rfl⟩
  map:=fun id _ kk es e=>⟨kk,es,e,rfl⟩
  loop:=fun id _ st p env ps a b e=>⟨⟨st,p,env,ps,a,b,e⟩,rfl⟩ }
 refine⟨hle,⟨fun id g cs e=>?_,fun id kk es e=>?_,fun id st p env ps a b e=>?_,hX.inj,fun id B base e=>?_,fun id o e=>?_,fun B hb=>?_,hX.zero⟩⟩
 ·obtain⟨B,base,C2,T2,vs,k1,k2,k3,k4,k5⟩:=hX.cells id g cs e
  exact⟨B,base,C2,T2,vs,k1,(hk B (hX.dom _ _ _ k1).1).trans k2,k3,k4.le hle,k5⟩
 ·obtain⟨B,ents,clock,k1,k2,k3⟩:=hX.maps id kk es e
  exact⟨B,ents,clock,k1,(hk B (hX.dom _ _ _ k1).1).trans k2,k3.le hle⟩
 ·obtain⟨B,k1,k2⟩:=hX.loops id _ _ _ _ _ _ e
  exact⟨B,k1,k2.le hle (hk B (hX.dom _ _ _ k1).1)⟩
 ·obtain⟨k1,k2,k3⟩:=hX.dom id B base e
  exact⟨Nat.lt_of_lt_of_le k1 hs,k2,k3⟩
 ·exact Nat.lt_of_lt_of_le (hX.ids id o e) hs
 ·exact Nat.lt_of_lt_of_le (hX.mine B hb) hs
end
end Go.Proofs.YtlnobeojgifojaaGreatDoor
