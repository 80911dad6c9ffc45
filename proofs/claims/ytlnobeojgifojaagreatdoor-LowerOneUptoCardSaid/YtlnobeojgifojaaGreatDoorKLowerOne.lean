/- For every input of bulk at most 1048576 the law glyphcutterlaw13.LowerOne returns true, and its arguments stay as they were; the three listed package variables start as the program's text lays them (the statement LowerOneUptoCardSaid). Conditions: none but the statement's own. -/
import Derived.Test.YtlnobeojgifojaaGreatDoorCards
import Derived.Test.YtlnobeojgifojaaGreatDoorTie
import Derived.Test.YtlnobeojgifojaaGreatDoorH
import Derived.OpenShut
import Derived.JoinedCond
import Derived.Deep.DeepHandedRow
import Derived.Lib.LaidTab
namespace Go.Proofs.YtlnobeojgifojaaGreatDoor.lowerOne
open Go Go.RowKit Go.ChangeShapes Go.WideShapes Go.ChangeAt
theorem own:ownKnob Tryz.prog.godebug=none:=by kernel_rfl
theorem types:tE Tryz.prog Tryz.f8.params.toList=some [.int .u32]:=by kernel_rfl
set_option maxRecDepth 100000 in
theorem contract (H:Type)(enc:TypeId×Value→H)(W:World)(base:Nat)(args:Array Value)(ds gs:List (DataW H))(before:List MemPlace)
  (hval:∀ (j:Nat) t v,Tryz.f8.params[j]?=some t→args[j]?=some v→Value.okWide Tryz.prog W .any base t v)
  (hW:DataW.Whole enc Tryz.prog Tryz.f8.params.toList Rows.lowerOneSpec.vars false W args.toList ds gs before) (hk:Rows.uptoSmall H (ds++gs)=true) :
  Calls Tryz.prog 8 args W fun e W'=>∃ v,e = .returned v∧Rows.lowerOneSpec.post enc Tryz.prog Tryz.f8 false true false false W args v W':=by
 refine Gu (s:=Rows.lowerOneSpec) E6 (k:=257) (fn:=Tryz.f8) (Ts:=[.int .u32]) (tb:=4) (by decide) Tryz.func8 types (of_decide_eq_true (by kernel_rfl)) (by kernel_rfl) Tryz.underlying4 AK (fun h1 h2=>E5 h1 h2) (by rfl) ?_ hval hW fun xs h1 h2=>?_
 ·intro ds hl
  match ds,hl with
  | [d0],_=>rfl
 ·exact s9 AG AF AH AJ AI AD AM AL xs h1 (Nat.le_trans h2 (upto_small hk))
noncomputable def laidWorld (os:Os):World:=BF (World.holding Tryz.prog os ⟨#[],#[],[]⟩)
theorem laid_met (os:Os):laidMet Tryz.prog Rows.lowerOneUptoRow.laid ((laidWorld os).forCall (fun _ _=>0) ⟨#[],#[.int .u32 0],[]⟩).memory :=
 laidMet_of_run' 8 (by kernel_rfl) (by kernel_rfl)
theorem reads (os:Os){H:Type}(enc:TypeId×Value→H):∃ places,DataW.whole enc Tryz.prog ((laidWorld os).forCall (fun _ _=>0) ⟨#[],#[.int .u32 0],[]⟩).memory Tryz.f8.params.toList Rows.lowerOneSpec.vars false (#[.int .u32 0]:Array Value).toList 8=some ([.lit (.int .u32 0)],[],places) :=
 ⟨[],by kernel_rfl⟩
set_option maxRecDepth 100000 in
theorem lifted (os:Os)(started:os.Started)(H:Type)(enc:TypeId×Value→H)(F:Stop.Interp) :
  ReturnsInHanded {} Tryz.checked os 8 .any ((Rows.OpenSpec.upto Rows.lowerOneSpec).preRow enc Tryz.prog Tryz.f8 Rows.lowerOneUptoRow.domain false Rows.lowerOneUptoRow.laid) (((Rows.OpenSpec.upto Rows.lowerOneSpec).at F).post enc Tryz.prog Tryz.f8 false true false false):=by
 obtain⟨places,hx⟩:=reads os enc
 refine returnsInHanded_of_row (C:=Tryz.checked) (s:=Rows.OpenSpec.upto Rows.lowerOneSpec) own started (by kernel_rfl) Tryz.func8
  (witness_row_at (enc:=enc) (C:=Tryz.checked) false (laidWorld os) #[.int .u32 0] rfl (by kernel_rfl) (by kernel_rfl) (by kernel_rfl)
   (OpenSpec.preRow_of_cond 8 hx (by kernel_rfl) (fun k hk=>by cases hk;kernel_rfl) (by kernel_rfl) (laid_met os))) ?_
 intro W base args ds gs before hval hW _ hcond _ hL _ _
 exact contract H enc W base args ds gs before hval hW (hcond _ rfl)
set_option maxRecDepth 100000 in
theorem over:Rows.LowerOneUptoSaid :=
 OpenClaim.holds_of_cond 8 Tryz.f8 rfl rfl rfl rfl rfl rfl rfl ⟨rfl,rfl,rfl,rfl,rfl⟩ rfl rfl rfl rfl rfl (by kernel_rfl) Tryz.func8 (by kernel_rfl)
  (of_decide_eq_true (by kernel_rfl)) (by unfold Func.isWrapper;first|(rw[if_pos (by decide +kernel)];kernel_rfl)|(rw[if_neg (by decide +kernel)];exact⟨rfl,rfl⟩))
  (fun os started H enc _ F=>by rw[OpenClaim.pre_eq_preRow];exact lifted os started H enc F)
theorem plain (f:FuncId)(fn:Func)(hf:Tryz.pinned.checked.prog.funcNamed Rows.lowerOneUptoRow.func=some f)(hfn:Tryz.pinned.checked.prog.funcs[f]?=some fn) :
  false=Tryz.pinned.checked.prog.looks []∧∀ (j:Nat) t,fn.params[j]?=some t→Tryz.pinned.checked.prog.wantsStandIn t=false:=by
 obtain rfl:f=8:=Option.some.inj ((show Tryz.prog.funcNamed Rows.lowerOneUptoRow.func=some 8 by kernel_rfl).symm.trans hf) |>.symm
 obtain rfl:fn=Tryz.f8:=(Option.some.inj (Tryz.func8.symm.trans hfn)).symm
 refine⟨by kernel_rfl,fun j t ht=>?_⟩
 rw[Tryz.params8]at ht
 have hm:=Array.mem_of_getElem? ht
 simp only[List.mem_toArray,List.mem_cons,List.not_mem_nil,or_false]at hm
 have h56:Tryz.prog.wantsStandIn 56=false:=by kernel_rfl
 rcases hm with rfl
 ·exact h56
theorem proved:Rows.LowerOneUptoCardSaid :=
 Claim7.holds_tied_plain_at .later [] _ _ _ _ over (fun _ h=>by cases h) (by kernel_rfl) (fun _ h=>by cases h) lowerOneUpto_row_tie rfl ⟨rfl,rfl⟩ (by kernel_rfl) rfl plain (by kernel_rfl)
end Go.Proofs.YtlnobeojgifojaaGreatDoor.lowerOne
