/- The seat's library (machines of bytes): each function is its code; room and sorting by the kit's contracts. What the Lower statements read of their arguments. -/
import Derived.Test.YtlnobeojgifojaaGreatDoorG
import Derived.Test.YtlnobeojgifojaaGreatDoorA8
import Derived.Test.YtlnobeojgifojaaGreatDoorE5
import Derived.Test.YtlnobeojgifojaaGreatDoorCF
import Derived.Test.YtlnobeojgifojaaGreatDoorLaid
import Derived.WalkKit
import Derived.ProofKit
import Derived.ChangeBears
import Derived.Deep.QuietTactic
import Derived.Test.YtlnobeojgifojaaGreatDoorA7
import Derived.Test.YtlnobeojgifojaaGreatDoorXC
set_option linter.unusedVariables false
set_option linter.unusedSimpArgs false
namespace Go.Proofs.YtlnobeojgifojaaGreatDoor
section
open Go Go.Shelf Go.RowKit Go.Lib Go.Sort
set_option maxHeartbeats 1000000 in
theorem xA (x y:Int×Int)(W:World):Calls Tryz.prog 88 #[.agg #[.int .i64 x.1,.int .i64 x.2],.agg #[.int .i64 y.1,.int .i64 y.2]] W fun e w'=>e = .returned (.int .i64 (Lib.compareInt x.1 y.1))∧∃ q os',w'=grow (W.drewN q) os':=by
 have hcon:=fun W'=>AnyG.cmp_Compare_int Tryz.cmpInt x.1 y.1 W'
 change ∀ W',Calls Tryz.prog 80 _ _ _ at hcon
 generalize Lib.compareInt x.1 y.1=r at hcon ⊢
 go_enter Tryz.func88,Tryz.ntmps88
 go_wp2_with (go_at_call 80;refine(hcon _).mono ?_;rintro e w' ⟨rfl,rfl⟩)
 go_ret
 exact⟨rfl,0,_,by rw[alloc_eq_grow,alloc_eq_grow,grow_grow];rfl⟩
set_option maxHeartbeats 1000000 in
theorem Ct (a:Addr)(m:Nat)(lo:Nat→Int)(W:World)(h:GI W a m lo)(x y:Nat)(hx:x<m)(hy:y<m):Calls Tryz.prog 79 #[.int .i64 x,.int .i64 y,.pointer (some a)] W fun e w'=>e = .returned (.int .i64 (Lib.compareInt (lo x) (lo y)))∧∃ q os',w'=grow (W.drewN q) os':=by
 obtain⟨ab,ao,asp⟩:=a
 obtain⟨B,bo,cap,hsp,h0,hrow⟩:=h
 simp only at hsp h0
 subst hsp
 obtain⟨C1,co1,n1,cp1,e1,l1,v1⟩:=hrow x hx
 obtain⟨C2,co2,n2,cp2,e2,l2,v2⟩:=hrow y hy
 have hcon:=fun W'=>AnyG.cmp_Compare_int Tryz.cmpInt (lo x) (lo y) W'
 change ∀ W',Calls Tryz.prog 80 _ _ _ at hcon
 generalize Lib.compareInt (lo x) (lo y)=r at hcon ⊢
 generalize lo x=px at *
 generalize lo y=py at *
 clear hrow
 go_enter Tryz.func79,Tryz.ntmps79
 go_wp2
 go_quiet (exact Calls.quiet_of_same (hcon _))
 go_wp2
 go_ret
 exact⟨rfl,nq,#[],by simp⟩
def DQ (o:Option TypeInfo):Bool:=match o with
 | some i=>(match i.zero with
  | some z=>i.size == 2&&z.cells.size == 2&&decide (i.bytes≤1024)
  | none=>false)
 | none=>false
theorem yU {o:Option TypeInfo}(h:DQ o=true):∃ i z,o=some i∧i.zero=some z∧i.size=2∧z.cells.size=2∧i.bytes≤1024:=by
 unfold DQ at h
 split at h
 ·rename_i i
  split at h
  ·rename_i z hz
   simp only[Bool.and_eq_true,beq_iff_eq,decide_eq_true_eq]at h
   exact⟨i,z,rfl,hz,h.1.1,h.1.2,h.2⟩
  ·cases h
 ·cases h
theorem DR:∃ i z,Tryz.prog.info? 45=some i∧i.zero=some z∧i.size=2∧z.cells.size=2∧i.bytes≤1024:=yU (by kernel_rfl)
noncomputable def sj (k:Nat):Ext:=if k=120 then lI 121 else if k=128 then o8 2 else if k=48 then jj 49 else mS
noncomputable def oK:Lib:=xf (uY sj)
theorem E6:z3 oK (wY Tryz.prog aV) (ce aV) Tryz.prog:=by
 refine DI (by kernel_rfl) Da (yo sj) fun k fid p hk hl X args vals Q hp hX hv=>?_
 have hkk:(k=120∧p=lI 121)∨(k=128∧p=o8 2)∨(k=48∧p=jj 49)∨(k=42∧p=mS):=by
  simp only[xf,Option.map_eq_some_iff]at hl
  obtain⟨q,hq,e⟩:=hl
  have hmem:=List.mem_of_find?_eq_some hq
  have hk2:q.1=k:=by simpa using List.find?_some hq
  obtain⟨a,b⟩:=q
  simp only at e hk2
  subst e hk2
  simp only[uY,List.mem_cons,List.not_mem_nil,or_false,Prod.mk.injEq,reduceCtorEq,and_false,false_or,qD.ext.injEq]at hmem
  simp only[sj]at hmem
  rcases hmem with⟨rfl,rfl⟩|⟨rfl,rfl⟩|⟨rfl,rfl⟩|⟨rfl,rfl⟩<;>simp
 rcases hkk with⟨rfl,rfl⟩|⟨rfl,rfl⟩|⟨rfl,rfl⟩|⟨rfl,rfl⟩
 ·have:fid=78:=by
   have h2:jX aV 120=some 78:=by decide
   rw[h2]at hk
   exact(Option.some.inj hk).symm
  subst this
  exact vJ Tryz.sortLo (gf:=79) (by decide) (enters_of Tryz.func79 (by kernel_rfl) rfl) Ct hp hX hv
 ·have:fid=125:=by
   have h2:jX aV 128=some 125:=by decide
   rw[h2]at hk
   exact(Option.some.inj hk).symm
  subst this
  obtain⟨i,z,g1,g2,g3,g4,g5⟩:=DR
  exact y9 Tryz.growSpan (by decide) i z g1 g2 g3 g4 g5 hp hX hv
 ·have:fid=87:=by
   have h2:jX aV 48=some 87:=by decide
   rw[h2]at hk
   exact(Option.some.inj hk).symm
  subst this
  refine qB Tryz.sortSpan Tryz.isAgg45 Tryz.sizeOf45 (gf:=88) (by decide) (enters_of Tryz.func88 (by kernel_rfl) rfl) xA hp hX hv
 ·have h2:jX aV 42=none:=by decide
  rw[h2]at hk
  cases hk
theorem AJ:gC oK:=by
 constructor<;>rfl
theorem AI:F6 oK:=by
 constructor<;>rfl
theorem AH:cZ oK:=by
 constructor<;>rfl
theorem AG:em oK:=by
 constructor<;>rfl
theorem AF:z4 oK:=by
 constructor<;>rfl
theorem AD:eG oK:=⟨by show some (qD.ext (sj 48))=_;simp[sj],by show some (qD.ext (sj 42))=_;simp[sj]⟩
theorem AM:fq oK:=⟨by show some (qD.ext (sj 128))=_;simp[sj]⟩
theorem AL:iG oK:=⟨by show some (qD.ext (sj 120))=_;simp[sj]⟩
theorem AK:Kids Tryz.prog (·<Tryz.prog.types.size):=kids_rows (by kernel_rfl) (by kernel_rfl)
theorem AE:((List.range Tryz.prog.types.size).all fun t=>match Tryz.prog.underlying t with
  | some (.slice e)=>decide (0<Tryz.prog.cellsOf e)
  | _=>true)=true:=by kernel_rfl
theorem E5 {t e:TypeId}(ht:t<Tryz.prog.types.size)(h:Tryz.prog.underlying t=some (.slice e)):0<Tryz.prog.cellsOf e:=by
 have:=List.all_eq_true.1 AE t (List.mem_range.2 ht)
 rw[h]at this
 simpa using this
mutual
theorem m8 {H:Type}:∀ d:DataW H,Rows.uptoBulk d=gS d
 | .lit l=>by cases l<;>simp[Rows.uptoBulk,gS]
 | .nil=>by simp[Rows.uptoBulk,gS]
 | .ptr d=>by simp[Rows.uptoBulk,gS,m8 d]
 | .slice a b=>by simp[Rows.uptoBulk,gS,upto_bulkAll a,upto_bulkAll b]
 | .agg a=>by simp[Rows.uptoBulk,gS,upto_bulkAll a]
 | .iface _ d=>by simp[Rows.uptoBulk,gS,m8 d]
 | .map a=>by simp[Rows.uptoBulk,gS,upto_bulkEntries a]
 | .held _=>by simp[Rows.uptoBulk,gS]
theorem upto_bulkAll {H:Type}:∀ ds:List (DataW H),Rows.uptoBulkAll ds=dBulkAll ds
 | []=>rfl
 | d::r=>by simp[Rows.uptoBulkAll,dBulkAll,m8 d,upto_bulkAll r]
theorem upto_bulkEntries {H:Type}:∀ ds:List (Lit×DataW H),Rows.uptoBulkEntries ds=dBulkEntries ds
 | []=>rfl
 | x::r=>by simp[Rows.uptoBulkEntries,dBulkEntries,upto_bulkEntry x,upto_bulkEntries r]
theorem upto_bulkEntry {H:Type}:∀ x:Lit×DataW H,Rows.uptoBulkEntry x=dBulkEntry x
 | (l,d)=>by cases l<;>simp[Rows.uptoBulkEntry,dBulkEntry,m8 d]
end
theorem upto_small {H:Type}{ds:List (DataW H)}(h:Rows.uptoSmall H ds=true):dBulkAll ds≤1048576:=by
 rw[← upto_bulkAll]
 exact of_decide_eq_true h
def putObj (vs:Array Value):Obj→Obj
 | .cells _ t fr => .cells vs t fr
 | o=>o
def BF (w:World):World:={ w with heap:=((w.heap.modify 0 (putObj #[.int .u64 1,.int .u64 10,.int .u64 100,.int .u64 1000,.int .u64 10000,.int .u64 100000,.int .u64 1000000,.int .u64 10000000,.int .u64 100000000,.int .u64 1000000000,.int .u64 10000000000,.int .u64 100000000000,.int .u64 1000000000000,.int .u64 10000000000000,.int .u64 100000000000000,.int .u64 1000000000000000,.int .u64 10000000000000000,.int .u64 100000000000000000,.int .u64 1000000000000000000,.int .u64 10000000000000000000])).modify 1 (putObj #[.int .u8 0,.int .u8 1,.int .u8 28,.int .u8 2,.int .u8 29,.int .u8 14,.int .u8 24,.int .u8 3,.int .u8 30,.int .u8 22,.int .u8 20,.int .u8 15,.int .u8 25,.int .u8 17,.int .u8 4,.int .u8 8,.int .u8 31,.int .u8 27,.int .u8 13,.int .u8 23,.int .u8 21,.int .u8 19,.int .u8 16,.int .u8 7,.int .u8 26,.int .u8 12,.int .u8 18,.int .u8 6,.int .u8 11,.int .u8 5,.int .u8 10,.int .u8 9])).modify 2 (putObj #[.int .u8 0,.int .u8 1,.int .u8 56,.int .u8 2,.int .u8 57,.int .u8 49,.int .u8 28,.int .u8 3,.int .u8 61,.int .u8 58,.int .u8 42,.int .u8 50,.int .u8 38,.int .u8 29,.int .u8 17,.int .u8 4,.int .u8 62,.int .u8 47,.int .u8 59,.int .u8 36,.int .u8 45,.int .u8 43,.int .u8 51,.int .u8 22,.int .u8 53,.int .u8 39,.int .u8 33,.int .u8 30,.int .u8 24,.int .u8 18,.int .u8 12,.int .u8 5,.int .u8 63,.int .u8 55,.int .u8 48,.int .u8 27,.int .u8 60,.int .u8 41,.int .u8 37,.int .u8 16,.int .u8 46,.int .u8 35,.int .u8 44,.int .u8 21,.int .u8 52,.int .u8 32,.int .u8 23,.int .u8 11,.int .u8 54,.int .u8 26,.int .u8 40,.int .u8 15,.int .u8 34,.int .u8 20,.int .u8 31,.int .u8 10,.int .u8 25,.int .u8 14,.int .u8 19,.int .u8 9,.int .u8 13,.int .u8 8,.int .u8 7,.int .u8 6]) }
end
section
open Go
theorem Fu {k:IntKind}{c:List AV}(hc:TV (.int k) c):∃ x:Int,c=[.int k x]∧k.min≤x∧x≤k.max:=by
 cases hc with
 | int h1 h2=>exact⟨_,rfl,h1,h2⟩
theorem EE {t:Ty}{a:AV}(ha:CD t a)(ht:∀ l,t ≠ .struct l):TV t [a]:=by
 cases ha with
 | cell h _=>exact h
 | struct h=>exact absurd rfl (ht _)
theorem FI {k:IntKind}{a:AV}(ha:CD (.int k) a):∃ x:Int,a = .int k x∧k.min≤x∧x≤k.max:=by
 obtain⟨x,e,h⟩:=Fu (EE ha (fun l e=>by cases e))
 exact⟨x,by cases e;rfl,h⟩
theorem tD {x:Int}(h:IntKind.u32.min≤x∧x≤IntKind.u32.max):0≤x∧x≤4294967295:=by
 simpa[IntKind.min,IntKind.max,IntKind.bits,IntKind.signed] using h
theorem s9 {Φ:Lib}(L:em Φ)(L7:z4 Φ)(L3:cZ Φ)(L1:gC Φ)(L2:F6 Φ)(S:eG Φ)(G:fq Φ)(J:iG Φ)(xs:List AV)(ha:uz [.int .u32] xs)(hb:AV.argsBulk xs≤1048576):aU Φ 257 xs aa.empty (fun v _=>v = .bool true):=by
 cases ha with|cons a1 ha =>
 cases ha
 simp only[AV.argsBulk]at hb
 obtain⟨r,rfl,c1⟩:=FI a1
 exact xe L L7 L3 L1 S G J r (tD c1).1 (tD c1).2
end
end Go.Proofs.YtlnobeojgifojaaGreatDoor
