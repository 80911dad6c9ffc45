/- The seat's library (machines of bytes): each function is its code; room and sorting by the kit's contracts. -/
import Derived.Test.YtlnobeojgifojaaGreatDoorG
import Derived.Test.YtlnobeojgifojaaGreatDoorA8
import Derived.Test.YtlnobeojgifojaaGreatDoorE5
import Derived.Test.YtlnobeojgifojaaGreatDoorCF
import Derived.Test.YtlnobeojgifojaaGreatDoorLaid
import Derived.WalkKit
import Derived.ProofKit
import Derived.ChangeBears
import Derived.Deep.QuietTactic
import Derived.Test.YtlnobeojgifojaaGreatDoorA7
import Derived.Test.YtlnobeojgifojaaGreatDoorXC
set_option linter.unusedVariables false
set_option linter.unusedSimpArgs false
namespace Go.Proofs.YtlnobeojgifojaaGreatDoor
section
open Go Go.Shelf Go.RowKit Go.Lib Go.Sort
set_option maxHeartbeats 1000000 in
theorem Ak (x y:Int×Int)(W:World):Calls Tryz.prog 88 #[.agg #[.int .i64 x.1,.int .i64 x.2],.agg #[.int .i64 y.1,.int .i64 y.2]] W fun e w'=>e = .returned (.int .i64 (Lib.compareInt x.1 y.1))∧∃ q os',w'=grow (W.drewN q) os':=by
 have hcon:=fun W'=>AnyG.cmp_Compare_int Tryz.cmpInt x.1 y.1 W'
 change ∀ W',Calls Tryz.prog 80 _ _ _ at hcon
 generalize Lib.compareInt x.1 y.1=r at hcon ⊢
 go_enter Tryz.func88,Tryz.ntmps88
 go_wp2_with (go_at_call 80;refine(hcon _).mono ?_;rintro e w' ⟨rfl,rfl⟩)
 go_ret
 exact⟨rfl,0,_,by rw[alloc_eq_grow,alloc_eq_grow,grow_grow];rfl⟩
set_option maxHeartbeats 1000000 in
theorem Fz (a:Addr)(m:Nat)(lo:Nat→Int)(W:World)(h:J8 W a m lo)(x y:Nat)(hx:x<m)(hy:y<m):Calls Tryz.prog 79 #[.int .i64 x,.int .i64 y,.pointer (some a)] W fun e w'=>e = .returned (.int .i64 (Lib.compareInt (lo x) (lo y)))∧∃ q os',w'=grow (W.drewN q) os':=by
 obtain⟨ab,ao,asp⟩:=a
 obtain⟨B,bo,cap,hsp,h0,hrow⟩:=h
 simp only at hsp h0
 subst hsp
 obtain⟨C1,co1,n1,cp1,e1,l1,v1⟩:=hrow x hx
 obtain⟨C2,co2,n2,cp2,e2,l2,v2⟩:=hrow y hy
 have hcon:=fun W'=>AnyG.cmp_Compare_int Tryz.cmpInt (lo x) (lo y) W'
 change ∀ W',Calls Tryz.prog 80 _ _ _ at hcon
 generalize Lib.compareInt (lo x) (lo y)=r at hcon ⊢
 generalize lo x=px at *
 generalize lo y=py at *
 clear hrow
 go_enter Tryz.func79,Tryz.ntmps79
 go_wp2
 go_quiet (exact Calls.quiet_of_same (hcon _))
 go_wp2
 go_ret
 exact⟨rfl,nq,#[],by simp⟩
def Hb (o:Option TypeInfo):Bool:=match o with
 | some i=>(match i.zero with
  | some z=>i.size == 2&&z.cells.size == 2&&decide (i.bytes≤1024)
  | none=>false)
 | none=>false
theorem BA {o:Option TypeInfo}(h:Hb o=true):∃ i z,o=some i∧i.zero=some z∧i.size=2∧z.cells.size=2∧i.bytes≤1024:=by
 unfold Hb at h
 split at h
 ·rename_i i
  split at h
  ·rename_i z hz
   simp only[Bool.and_eq_true,beq_iff_eq,decide_eq_true_eq]at h
   exact⟨i,z,rfl,hz,h.1.1,h.1.2,h.2⟩
  ·cases h
 ·cases h
theorem Hc:∃ i z,Tryz.prog.info? 45=some i∧i.zero=some z∧i.size=2∧z.cells.size=2∧i.bytes≤1024:=BA (by kernel_rfl)
noncomputable def uG (k:Nat):Ext:=if k=120 then ni 121 else if k=128 then qZ 2 else if k=48 then ki 49 else oG
noncomputable def qE:Lib:=zU (xL uG)
theorem Io:CN qE (zD Tryz.prog aZ) (bL aZ) Tryz.prog:=by
 refine G3 (by kernel_rfl) Gg (A2 uG) fun k fid p hk hl X args vals Q hp hX hv=>?_
 have hkk:(k=120∧p=ni 121)∨(k=128∧p=qZ 2)∨(k=48∧p=ki 49)∨(k=42∧p=oG):=by
  simp only[zU,Option.map_eq_some_iff]at hl
  obtain⟨q,hq,e⟩:=hl
  have hmem:=List.mem_of_find?_eq_some hq
  have hk2:q.1=k:=by simpa using List.find?_some hq
  obtain⟨a,b⟩:=q
  simp only at e hk2
  subst e hk2
  simp only[xL,List.mem_cons,List.not_mem_nil,or_false,Prod.mk.injEq,reduceCtorEq,and_false,false_or,sV.ext.injEq]at hmem
  simp only[uG]at hmem
  rcases hmem with⟨rfl,rfl⟩|⟨rfl,rfl⟩|⟨rfl,rfl⟩|⟨rfl,rfl⟩<;>simp
 rcases hkk with⟨rfl,rfl⟩|⟨rfl,rfl⟩|⟨rfl,rfl⟩|⟨rfl,rfl⟩
 ·have:fid=78:=by
   have h2:lz aZ 120=some 78:=by decide
   rw[h2]at hk
   exact(Option.some.inj hk).symm
  subst this
  exact yo Tryz.sortLo (gf:=79) (by decide) (enters_of Tryz.func79 (by kernel_rfl) rfl) Fz hp hX hv
 ·have:fid=125:=by
   have h2:lz aZ 128=some 125:=by decide
   rw[h2]at hk
   exact(Option.some.inj hk).symm
  subst this
  obtain⟨i,z,g1,g2,g3,g4,g5⟩:=Hc
  exact BI Tryz.growSpan (by decide) i z g1 g2 g3 g4 g5 hp hX hv
 ·have:fid=87:=by
   have h2:lz aZ 48=some 87:=by decide
   rw[h2]at hk
   exact(Option.some.inj hk).symm
  subst this
  refine sT Tryz.sortSpan Tryz.isAgg45 Tryz.sizeOf45 (gf:=88) (by decide) (enters_of Tryz.func88 (by kernel_rfl) rfl) Ak hp hX hv
 ·have h2:lz aZ 42=none:=by decide
  rw[h2]at hk
  cases hk
theorem DB:il qE:=by
 constructor<;>rfl
theorem DA:jM qE:=by
 constructor<;>rfl
theorem Dz:cJ qE:=by
 constructor<;>rfl
theorem Dy:fh qE:=by
 constructor<;>rfl
theorem Dx:CO qE:=by
 constructor<;>rfl
theorem Dv:fv qE:=⟨by show some (sV.ext (uG 48))=_;simp[uG],by show some (sV.ext (uG 42))=_;simp[uG]⟩
theorem DE:fV qE:=⟨by show some (sV.ext (uG 128))=_;simp[uG]⟩
theorem DD:jD qE:=⟨by show some (sV.ext (uG 120))=_;simp[uG]⟩
theorem DC:Kids Tryz.prog (·<Tryz.prog.types.size):=kids_rows (by kernel_rfl) (by kernel_rfl)
theorem Dw:((List.range Tryz.prog.types.size).all fun t=>match Tryz.prog.underlying t with
  | some (.slice e)=>decide (0<Tryz.prog.cellsOf e)
  | _=>true)=true:=by kernel_rfl
theorem Im {t e:TypeId}(ht:t<Tryz.prog.types.size)(h:Tryz.prog.underlying t=some (.slice e)):0<Tryz.prog.cellsOf e:=by
 have:=List.all_eq_true.1 Dw t (List.mem_range.2 ht)
 rw[h]at this
 simpa using this
mutual
theorem oV {H:Type}:∀ d:DataW H,Rows.uptoBulk d=jg d
 | .lit l=>by cases l<;>simp[Rows.uptoBulk,jg]
 | .nil=>by simp[Rows.uptoBulk,jg]
 | .ptr d=>by simp[Rows.uptoBulk,jg,oV d]
 | .slice a b=>by simp[Rows.uptoBulk,jg,upto_bulkAll a,upto_bulkAll b]
 | .agg a=>by simp[Rows.uptoBulk,jg,upto_bulkAll a]
 | .iface _ d=>by simp[Rows.uptoBulk,jg,oV d]
 | .map a=>by simp[Rows.uptoBulk,jg,upto_bulkEntries a]
 | .held _=>by simp[Rows.uptoBulk,jg]
theorem upto_bulkAll {H:Type}:∀ ds:List (DataW H),Rows.uptoBulkAll ds=dBulkAll ds
 | []=>rfl
 | d::r=>by simp[Rows.uptoBulkAll,dBulkAll,oV d,upto_bulkAll r]
theorem upto_bulkEntries {H:Type}:∀ ds:List (Lit×DataW H),Rows.uptoBulkEntries ds=dBulkEntries ds
 | []=>rfl
 | x::r=>by simp[Rows.uptoBulkEntries,dBulkEntries,upto_bulkEntry x,upto_bulkEntries r]
theorem upto_bulkEntry {H:Type}:∀ x:Lit×DataW H,Rows.uptoBulkEntry x=dBulkEntry x
 | (l,d)=>by cases l<;>simp[Rows.uptoBulkEntry,dBulkEntry,oV d]
end
theorem upto_small {H:Type}{ds:List (DataW H)}(h:Rows.uptoSmall H ds=true):dBulkAll ds≤1048576:=by
 rw[← upto_bulkAll]
 exact of_decide_eq_true h
def putObj (vs:Array Value):Obj→Obj
 | .cells _ t fr => .cells vs t fr
 | o=>o
def EH (w:World):World:={ w with heap:=((w.heap.modify 0 (putObj #[.int .u64 1,.int .u64 10,.int .u64 100,.int .u64 1000,.int .u64 10000,.int .u64 100000,.int .u64 1000000,.int .u64 10000000,.int .u64 100000000,.int .u64 1000000000,.int .u64 10000000000,.int .u64 100000000000,.int .u64 1000000000000,.int .u64 10000000000000,.int .u64 100000000000000,.int .u64 1000000000000000,.int .u64 10000000000000000,.int .u64 100000000000000000,.int .u64 1000000000000000000,.int .u64 10000000000000000000])).modify 1 (putObj #[.int .u8 0,.int .u8 1,.int .u8 28,.int .u8 2,.int .u8 29,.int .u8 14,.int .u8 24,.int .u8 3,.int .u8 30,.int .u8 22,.int .u8 20,.int .u8 15,.int .u8 25,.int .u8 17,.int .u8 4,.int .u8 8,.int .u8 31,.int .u8 27,.int .u8 13,.int .u8 23,.int .u8 21,.int .u8 19,.int .u8 16,.int .u8 7,.int .u8 26,.int .u8 12,.int .u8 18,.int .u8 6,.int .u8 11,.int .u8 5,.int .u8 10,.int .u8 9])).modify 2 (putObj #[.int .u8 0,.int .u8 1,.int .u8 56,.int .u8 2,.int .u8 57,.int .u8 49,.int .u8 28,.int .u8 3,.int .u8 61,.int .u8 58,.int .u8 42,.int .u8 50,.int .u8 38,.int .u8 29,.int .u8 17,.int .u8 4,.int .u8 62,.int .u8 47,.int .u8 59,.int .u8 36,.int .u8 45,.int .u8 43,.int .u8 51,.int .u8 22,.int .u8 53,.int .u8 39,.int .u8 33,.int .u8 30,.int .u8 24,.int .u8 18,.int .u8 12,.int .u8 5,.int .u8 63,.int .u8 55,.int .u8 48,.int .u8 27,.int .u8 60,.int .u8 41,.int .u8 37,.int .u8 16,.int .u8 46,.int .u8 35,.int .u8 44,.int .u8 21,.int .u8 52,.int .u8 32,.int .u8 23,.int .u8 11,.int .u8 54,.int .u8 26,.int .u8 40,.int .u8 15,.int .u8 34,.int .u8 20,.int .u8 31,.int .u8 10,.int .u8 25,.int .u8 14,.int .u8 19,.int .u8 9,.int .u8 13,.int .u8 8,.int .u8 7,.int .u8 6]) }
end
section
open Go
theorem AV.bulk_pos (v:AV):1≤v.bulk:=by
 cases v<;>simp[AV.bulk]
theorem AV.bulkL_len:∀ cs:List AV,cs.length≤AV.bulkL cs
 | []=>Nat.zero_le _
 | v::cs=>by
  have h1:=AV.bulk_pos v
  have h2:=AV.bulkL_len cs
  simp only[AV.bulkL,List.length_cons];omega
theorem TVall.len {n:Nat}{e:Ty}:∀ {es:List (List AV)},TVall n e es→es.flatten.length=es.length*n
 | _,.nil=>by simp
 | _,.cons (c:=c) (es:=es) _ h2 h3=>by
  rw[List.flatten_cons,List.length_append,h2,h3.len,List.length_cons,Nat.add_mul,Nat.one_mul,Nat.add_comm]
theorem we {α:Type}{f:α→List AV}{P:α→Prop}{n B:Nat}{e:Ty}(hd:∀ c,TV e c→AV.bulkL c≤B→∃ x,c=f x∧P x):∀ {es:List (List AV)},TVall n e es→AV.bulkL es.flatten≤B→∃ l:List α,es.length=l.length∧es.flatten=l.flatMap f∧∀ x∈l,P x
 | _,.nil,_=>⟨[],rfl,rfl,fun x h=>by cases h⟩
 | _,.cons (c:=c) (es:=es) h1 _ h3,hb=>by
  rw[List.flatten_cons,AV.bulkL_append]at hb
  obtain⟨x,rfl,hx⟩:=hd c h1 Ll
  obtain⟨l,a1,a2,a3⟩:=we hd h3 Ll
  refine⟨x::l,by simp[a1],by rw[List.flatten_cons,a2,List.flatMap_cons],fun y hy=>?_⟩
  rcases List.mem_cons.1 hy with rfl|hy
  ·exact hx
  ·exact a3 y hy
theorem Dq {α:Type}{f:α→List AV}{P:α→Prop}{n B:Nat}{e:Ty}(hn:1≤n)(hd:∀ c,TV e c→AV.bulkL c≤B→∃ x,c=f x∧P x){c:List AV}(hc:TV (.slice n e) c)(hb:AV.bulkL c≤B):∃ l:List α,c=[.rd l.length (l.flatMap f) false]∧l.length≤B∧∀ x∈l,P x:=by
 cases hc with
 | slice h =>
  rename_i es
  simp only[AV.bulkL,AV.bulk]at hb
  have h1:=AV.bulkL_len es.flatten
  have h2:=h.len
  have h3:es.length≤es.length*n:=Nat.le_mul_of_pos_right _ hn
  obtain⟨l,a1,a2,a3⟩:=we hd h Ll
  exact⟨l,by rw[a1,a2],by omega,a3⟩
theorem Hj {α:Type}{g:α→AV}(l:List α):l.flatMap (fun x=>[g x])=l.map g:=by
 induction l with
 | nil=>rfl
 | cons a l ih=>simp[ih]
theorem tL {α:Type}{g:α→AV}{P:α→Prop}{B:Nat}{e:Ty}(hd:∀ c,TV e c→AV.bulkL c≤B→∃ x,c=[g x]∧P x){c:List AV}(hc:TV (.slice 1 e) c)(hb:AV.bulkL c≤B):∃ l:List α,c=[.rd l.length (l.map g) false]∧l.length≤B∧∀ x∈l,P x:=by
 obtain⟨l,a1,a2,a3⟩:=Dq (f:=fun x=>[g x]) (Nat.le_refl 1) hd hc hb
 exact⟨l,by rw[a1,Hj],a2,a3⟩
theorem Cz {k:IntKind}{c:List AV}(hc:TV (.int k) c):∃ x:Int,c=[.int k x]∧k.min≤x∧x≤k.max:=by
 cases hc with
 | int h1 h2=>exact⟨_,rfl,h1,h2⟩
theorem zZ {k:IntKind}{B:Nat}{c:List AV}(hc:TV (.slice 1 (.int k)) c)(hb:AV.bulkL c≤B):∃ l:List Int,c=[.rd l.length (l.map (.int k)) false]∧l.length≤B∧∀ x∈l,k.min≤x∧x≤k.max :=
 tL (fun c h _=>Cz h) hc hb
theorem FY {x:Int}(h:IntKind.u8.min≤x∧x≤IntKind.u8.max):0≤x∧x≤255:=by
 simpa[IntKind.min,IntKind.max,IntKind.bits,IntKind.signed] using h
theorem wc {x:Int}(h:IntKind.u16.min≤x∧x≤IntKind.u16.max):0≤x∧x≤65535:=by
 simpa[IntKind.min,IntKind.max,IntKind.bits,IntKind.signed] using h
theorem Ha {x:Int}(h:IntKind.i8.min≤x∧x≤IntKind.i8.max) : -128≤x∧x≤127:=by
 simpa[IntKind.min,IntKind.max,IntKind.bits,IntKind.signed] using h
theorem rj {t:Ty}{a:AV}(ha:uX t a)(ht:∀ l,t ≠ .struct l):TV t [a]:=by
 cases ha with
 | cell h _=>exact h
 | struct h=>exact absurd rfl (ht _)
theorem rk {t:Ty}{a:AV}(ha:uX t a)(ht:∀ l,t ≠ .struct l):AV.bulkL [a]≤a.argBulk:=by
 have h:=rj ha ht
 cases a with
 | agg cs =>
  cases h with
  | struct _=>exact absurd rfl (ht _)
 | _=>simp[AV.bulkL,AV.argBulk]
theorem I6 {k:IntKind}{a:AV}(ha:uX (.int k) a):∃ x:Int,a = .int k x∧k.min≤x∧x≤k.max:=by
 obtain⟨x,e,h⟩:=Cz (rj ha (fun l e=>by cases e))
 exact⟨x,by cases e;rfl,h⟩
theorem Av {k:IntKind}{a:AV}(ha:uX (.slice 1 (.int k)) a)(hb:a.argBulk≤1048576):∃ l:List Int,a = .rd l.length (l.map (.int k)) false∧l.length≤1048576∧∀ x∈l,k.min≤x∧x≤k.max:=by
 have hne:∀ l,Ty.slice 1 (.int k) ≠ .struct l:=fun l e=>by cases e
 obtain⟨l,e,h⟩:=zZ (B:=1048576) (rj ha hne) (Nat.le_trans (rk ha hne) hb)
 exact⟨l,by cases e;rfl,h⟩
@[reducible] def FZ:Ty := .slice 1 (.slice 1 (.int .u16))
@[reducible] def JW:Ty := .slice 1 (.int .i8)
theorem EJ {c:List AV}(hc:TV (.slice 1 (.int .u16)) c)(hb:AV.bulkL c≤1048576):∃ r:Rw Int,c=[li r]∧(r.l.length≤1048576∧∀ x∈r.l,0≤x∧x≤65535):=by
 obtain⟨l,rfl,b1,b2⟩:=zZ (B:=1048576) hc hb
 exact⟨⟨l,false⟩,rfl,b1,fun x hx=>wc (b2 x hx)⟩
theorem BX {a:AV}(ha:uX FZ a)(hb:a.argBulk≤1048576):∃ r:Rw (Rw Int),a=r.mv li∧r.l.length≤1048576∧∀ x∈r.l,x.l.length≤1048576∧∀ y∈x.l,0≤y∧y≤65535:=by
 have hne:∀ l,FZ ≠ .struct l:=fun l e=>by cases e
 obtain⟨l,e,b1,b2⟩:=tL (B:=1048576) (g:=li) (fun c h hb=>EJ h hb) (rj ha hne) (Nat.le_trans (rk ha hne) hb)
 exact⟨⟨l,false⟩,by cases e;rfl,b1,b2⟩
theorem CJ {a:AV}(ha:uX JW a)(hb:a.argBulk≤1048576):∃ r:Rw Int,a=lc r∧r.l.length≤1048576∧∀ x∈r.l,-128≤x∧x≤127:=by
 obtain⟨l,rfl,b1,b2⟩:=Av ha hb
 exact⟨⟨l,false⟩,rfl,b1,fun x hx=>Ha (b2 x hx)⟩
theorem HU {a:AV}(ha:uX (.slice 1 (.int .u16)) a)(hb:a.argBulk≤1048576):∃ r:Rw Int,a=li r∧r.l.length≤1048576∧∀ x∈r.l,0≤x∧x≤65535:=by
 obtain⟨l,rfl,b1,b2⟩:=Av ha hb
 exact⟨⟨l,false⟩,rfl,b1,fun x hx=>wc (b2 x hx)⟩
theorem sQ {Φ:Lib}(L:fh Φ)(L7:CO Φ)(L3:cJ Φ)(L1:il Φ)(L2:jM Φ)(S:fv Φ)(G:fV Φ)(J:jD Φ)(xs:List AV)(ha:xh [FZ,.int .u8,JW,JW,.slice 1 (.int .u16)] xs)(hb:AV.argsBulk xs≤1048576):bc Φ 254 xs ad.empty (fun v _=>v = .bool true):=by
 cases ha with|cons a1 ha=>cases ha with|cons a2 ha=>cases ha with|cons a3 ha=>cases ha with|cons a4 ha=>cases ha with|cons a5 ha =>
 cases ha
 simp only[AV.argsBulk]at hb
 obtain⟨c,rfl,c1,c2⟩:=BX a1 Ll
 obtain⟨k,rfl,c3⟩:=I6 a2
 obtain⟨n,rfl,c4,c5⟩:=CJ a3 Ll
 obtain⟨t,rfl,c6,c7⟩:=CJ a4 Ll
 obtain⟨r,rfl,c8,c9⟩:=HU a5 Ll
 exact vD L L7 L3 L1 L2 S G J c k n t ⟨c1,c2,FY c3,c4,c5,c6,c7⟩ r c8 c9
end
end Go.Proofs.YtlnobeojgifojaaGreatDoor
