/- For every input of bulk at most 1048576 the law glyphcutterlaw13.LowerTells returns true, and its arguments stay as they were; the three listed package variables start as the program's text lays them (the statement LowerTellsUptoCardSaid). Conditions: none but the statement's own. -/
import Derived.Test.YtlnobeojgifojaaGreatDoorCards
import Derived.Test.YtlnobeojgifojaaGreatDoorTie
import Derived.Test.YtlnobeojgifojaaGreatDoorH
import Derived.OpenShut
import Derived.JoinedCond
import Derived.Deep.DeepHandedRow
import Derived.Lib.LaidTab
namespace Go.Proofs.YtlnobeojgifojaaGreatDoor.lowerTells
open Go Go.RowKit Go.ChangeShapes Go.WideShapes Go.ChangeAt
theorem own:ownKnob Tryz.prog.godebug=none:=by kernel_rfl
theorem types:wd Tryz.prog Tryz.f5.params.toList=some [.slice 1 (.slice 1 (.int .u16)),.int .u8,.slice 1 (.int .i8),.slice 1 (.int .i8),.slice 1 (.int .u16)]:=by kernel_rfl
set_option maxRecDepth 100000 in
theorem contract (H:Type)(enc:TypeId×Value→H)(W:World)(base:Nat)(args:Array Value)(ds gs:List (DataW H))(before:List MemPlace)
  (hval:∀ (j:Nat) t v,Tryz.f5.params[j]?=some t→args[j]?=some v→Value.okWide Tryz.prog W .any base t v)
  (hW:DataW.Whole enc Tryz.prog Tryz.f5.params.toList Rows.lowerTellsSpec.vars false W args.toList ds gs before) (hk:Rows.uptoSmall H (ds++gs)=true) :
  Calls Tryz.prog 5 args W fun e W'=>∃ v,e = .returned v∧Rows.lowerTellsSpec.post enc Tryz.prog Tryz.f5 false true false false W args v W':=by
 refine JS (s:=Rows.lowerTellsSpec) Io (k:=254) (fn:=Tryz.f5) (Ts:=[.slice 1 (.slice 1 (.int .u16)),.int .u8,.slice 1 (.int .i8),.slice 1 (.int .i8),.slice 1 (.int .u16)]) (tb:=4) (by decide) Tryz.func5 types (of_decide_eq_true (by kernel_rfl)) (by kernel_rfl) Tryz.underlying4 DC (fun h1 h2=>Im h1 h2) (by rfl) ?_ hval hW fun xs h1 h2=>?_
 ·intro ds hl
  match ds,hl with
  | [d0,d1,d2,d3,d4],_=>rfl
 ·exact sQ Dy Dx Dz DB DA Dv DE DD xs h1 (Nat.le_trans h2 (upto_small hk))
noncomputable def laidWorld (os:Os):World:=EH (World.holding Tryz.prog os ⟨#[],#[],[]⟩)
theorem laid_met (os:Os):laidMet Tryz.prog Rows.lowerTellsUptoRow.laid ((laidWorld os).forCall (fun _ _=>0) ⟨#[],#[.slice none 0 0,.int .u8 0,.slice none 0 0,.slice none 0 0,.slice none 0 0],[]⟩).memory :=
 laidMet_of_run' 8 (by kernel_rfl) (by kernel_rfl)
theorem reads (os:Os){H:Type}(enc:TypeId×Value→H):∃ places,DataW.whole enc Tryz.prog ((laidWorld os).forCall (fun _ _=>0) ⟨#[],#[.slice none 0 0,.int .u8 0,.slice none 0 0,.slice none 0 0,.slice none 0 0],[]⟩).memory Tryz.f5.params.toList Rows.lowerTellsSpec.vars false (#[.slice none 0 0,.int .u8 0,.slice none 0 0,.slice none 0 0,.slice none 0 0]:Array Value).toList 8=some ([.nil,.lit (.int .u8 0),.nil,.nil,.nil],[],places) :=
 ⟨[],by kernel_rfl⟩
set_option maxRecDepth 100000 in
theorem lifted (os:Os)(started:os.Started)(H:Type)(enc:TypeId×Value→H)(F:Stop.Interp) :
  ReturnsInHanded {} Tryz.checked os 5 .any ((Rows.OpenSpec.upto Rows.lowerTellsSpec).preRow enc Tryz.prog Tryz.f5 Rows.lowerTellsUptoRow.domain false Rows.lowerTellsUptoRow.laid) (((Rows.OpenSpec.upto Rows.lowerTellsSpec).at F).post enc Tryz.prog Tryz.f5 false true false false):=by
 obtain⟨places,hx⟩:=reads os enc
 refine returnsInHanded_of_row (C:=Tryz.checked) (s:=Rows.OpenSpec.upto Rows.lowerTellsSpec) own started (by kernel_rfl) Tryz.func5
  (witness_row_at (enc:=enc) (C:=Tryz.checked) false (laidWorld os) #[.slice none 0 0,.int .u8 0,.slice none 0 0,.slice none 0 0,.slice none 0 0] rfl (by kernel_rfl) (by kernel_rfl) (by kernel_rfl)
   (OpenSpec.preRow_of_cond 8 hx (by kernel_rfl) (fun k hk=>by cases hk;kernel_rfl) (by kernel_rfl) (laid_met os))) ?_
 intro W base args ds gs before hval hW _ hcond _ hL _ _
 exact contract H enc W base args ds gs before hval hW (hcond _ rfl)
set_option maxRecDepth 100000 in
theorem over:Rows.LowerTellsUptoSaid :=
 OpenClaim.holds_of_cond 5 Tryz.f5 rfl rfl rfl rfl rfl rfl rfl ⟨rfl,rfl,rfl,rfl,rfl⟩ rfl rfl rfl rfl rfl (by kernel_rfl) Tryz.func5 (by kernel_rfl)
  (of_decide_eq_true (by kernel_rfl)) (by unfold Func.isWrapper;first|(rw[if_pos (by decide +kernel)];kernel_rfl)|(rw[if_neg (by decide +kernel)];exact⟨rfl,rfl⟩))
  (fun os started H enc _ F=>by rw[OpenClaim.pre_eq_preRow];exact lifted os started H enc F)
theorem plain (f:FuncId)(fn:Func)(hf:Tryz.pinned.checked.prog.funcNamed Rows.lowerTellsUptoRow.func=some f)(hfn:Tryz.pinned.checked.prog.funcs[f]?=some fn) :
  false=Tryz.pinned.checked.prog.looks []∧∀ (j:Nat) t,fn.params[j]?=some t→Tryz.pinned.checked.prog.wantsStandIn t=false:=by
 obtain rfl:f=5:=Option.some.inj ((show Tryz.prog.funcNamed Rows.lowerTellsUptoRow.func=some 5 by kernel_rfl).symm.trans hf) |>.symm
 obtain rfl:fn=Tryz.f5:=(Option.some.inj (Tryz.func5.symm.trans hfn)).symm
 refine⟨by kernel_rfl,fun j t ht=>?_⟩
 rw[Tryz.params5]at ht
 have hm:=Array.mem_of_getElem? ht
 simp only[List.mem_toArray,List.mem_cons,List.not_mem_nil,or_false]at hm
 have h5:Tryz.prog.wantsStandIn 5=false:=by kernel_rfl
 have h22:Tryz.prog.wantsStandIn 22=false:=by kernel_rfl
 have h23:Tryz.prog.wantsStandIn 23=false:=by kernel_rfl
 have h42:Tryz.prog.wantsStandIn 42=false:=by kernel_rfl
 rcases hm with rfl|rfl|rfl|rfl|rfl
 ·exact h22
 ·exact h5
 ·exact h23
 ·exact h23
 ·exact h42
theorem proved:Rows.LowerTellsUptoCardSaid :=
 Claim7.holds_tied_plain_at .later [] _ _ _ _ over (fun _ h=>by cases h) (by kernel_rfl) (fun _ h=>by cases h) lowerTellsUpto_row_tie rfl ⟨rfl,rfl⟩ (by kernel_rfl) rfl plain (by kernel_rfl)
end Go.Proofs.YtlnobeojgifojaaGreatDoor.lowerTells
