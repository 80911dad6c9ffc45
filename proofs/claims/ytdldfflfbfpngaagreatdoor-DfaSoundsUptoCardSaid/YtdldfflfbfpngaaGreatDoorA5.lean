/- Every operation but calls. Calls, and one operation under its guard. Operations that may change places. Regions, code, functions. -/
import Derived.Test.YtdldfflfbfpngaaGreatDoorA4
import Derived.Orders
import Derived.OrdersIn
import Derived.RangeFuncIn
import Derived.RangeFuncLeaves
import Derived.RangeFuncCalls
import Derived.Test.YtdldfflfbfpngaaGreatDoorA1
import Derived.Test.YtdldfflfbfpngaaGreatDoorA3
set_option linter.unusedSimpArgs false
set_option linter.unusedVariables false
set_option linter.unusedSectionVars false
namespace Go.Proofs.YtdldfflfbfpngaaGreatDoor
open Go
section
variable {φ : Phi} {num : FuncId → Option Nat} {P : Program} {X : Ctx} {n bs : Nat} {env : Env} {act : Act} {o : Oper} {v : AV}
variable (hn : ∀ f k, num f = some k → φ k = some f) (hR : Rel φ n bs X env act)
include hn hR
theorem Yield.eff (h : Yield φ P X o act v) : EffOk φ P X o act v X.h := by
  obtain ⟨v', h1, h2⟩ := h
  exact ⟨v', X.w, X, .inl h1, rfl, rfl, .refl X, hR.heap, h2⟩
theorem pureR {d : DOp} {r : Res} (hk : d.kind = .pure) (hr : opRes env X.h d = some r) (hv : ∀ v, pureVal env d = some v → Yield φ P X o act v) : ResOk φ P X o act r := by
  unfold opRes at hr
  rw [hk] at hr
  simp only [Option.map_eq_some_iff] at hr
  obtain ⟨v, h1, rfl⟩ := hr
  exact (hv v h1).eff hn hR
theorem readR {d : DOp} {r : Res} (hk : d.kind = .read) (hr : opRes env X.h d = some r) (hv : ∀ v, readVal env X.h d = some v → Yield φ P X o act v) : ResOk φ P X o act r := by
  unfold opRes at hr
  rw [hk] at hr
  simp only [Option.map_eq_some_iff] at hr
  obtain ⟨v, h1, rfl⟩ := hr
  exact (hv v h1).eff hn hR
theorem newR {d : DOp} {r : Res} (hk : d.kind = .new) (hr : opRes env X.h d = some r) (hv : ∀ ob f, newVal env d = some (ob, f) → NewOk φ P X o act ob f) : ResOk φ P X o act r := by
  unfold opRes at hr
  rw [hk] at hr
  simp only [Option.map_eq_some_iff] at hr
  obtain ⟨⟨ob, f⟩, h1, rfl⟩ := hr
  exact hv ob f h1
theorem op_ok {bx : Bool} {po : Nat} {d : DOp} {r : Res} (hc : cOp num P bx po o.op = some d) (hr : opRes env X.h d = some r) : ResOk φ P X o act r := by
  cases hop : o.op <;> rw [hop] at hc <;> simp only [cOp] at hc
  case move x =>
    simp only [Option.map_eq_some_iff] at hc
    obtain ⟨d, hd, rfl⟩ := hc
    exact pureR hn hR rfl hr fun v hv => by injection hv with hv; subst hv; exact mv_ok hn hR (.inl hop) hd
  case assign x =>
    simp only [Option.map_eq_some_iff] at hc
    obtain ⟨d, hd, rfl⟩ := hc
    exact pureR hn hR rfl hr fun v hv => by injection hv with hv; subst hv; exact mv_ok hn hR (.inr hop) hd
  case pick c a b =>
    simp only [Option.bind_eq_some_iff, Option.map_eq_some_iff] at hc
    obtain ⟨c', h1, a', h2, b', h3, rfl⟩ := hc
    exact pureR hn hR rfl hr fun v hv => pick_ok hn hR hop h1 h2 h3 hv
  case alloc t =>
    simp only [Option.map_eq_some_iff] at hc
    obtain ⟨zs, hz, rfl⟩ := hc
    refine newR hn hR rfl hr fun ob f hv => ?_
    simp only [newVal, Option.some.injEq, Prod.mk.injEq] at hv
    obtain ⟨rfl, rfl⟩ := hv
    exact alloc_ok hn hR hop hz
  case box t x =>
    simp only [Option.map_eq_some_iff] at hc
    obtain ⟨d, hd, rfl⟩ := hc
    refine newR hn hR rfl hr fun ob f hv => ?_
    simp only [newVal] at hv
    split at hv
    · rename_i hval
      simp only [Option.some.injEq, Prod.mk.injEq] at hv
      obtain ⟨rfl, rfl⟩ := hv
      exact box_ok hn hR hop hd hval
    · cases hv
  case build t parts =>
    simp only [Option.bind_eq_some_iff] at hc
    obtain ⟨z, hz, hc⟩ := hc
    split at hc
    · rename_i fs ht
      simp only [Option.bind_eq_some_iff, Option.map_eq_some_iff] at hc
      obtain ⟨pl, hpl, ps, hps, rfl⟩ := hc
      exact pureR hn hR rfl hr fun v hv => build_ok hn hR hop hz (fun i z C hi hz hf => built_struct hn hR ht hpl hi hz hf) hps hv
    · rename_i m e ht
      simp only [Option.bind_eq_some_iff, Option.map_eq_some_iff] at hc
      obtain ⟨k, hk, ps, hps, rfl⟩ := hc
      exact pureR hn hR rfl hr fun v hv => build_ok hn hR hop hz (fun i z C hi hz hf => built_array hn hR ht hk hi hz hf) hps hv
    · cases hc
  case buildSlice t len parts =>
    split at hc
    · rename_i e ht
      simp only [Option.bind_eq_some_iff] at hc
      obtain ⟨k, hk, z, hz, hc⟩ := hc
      split at hc
      · rename_i hcond
        simp only [Option.map_eq_some_iff] at hc
        obtain ⟨ps, hps, rfl⟩ := hc
        unfold opRes at hr
        simp only [DOp.kind, Option.map_eq_some_iff] at hr
        obtain ⟨v, h1, rfl⟩ := hr
        obtain ⟨v', C, e1, e2⟩ := lit_ok hn hR hop ht hk hz hcond hps h1
        obtain ⟨g1, g2⟩ := HeapOk.garbage hn hR hR.heap C e
        exact ⟨v', _, { X with w := X.w.alloc (.cells C e) }, .inl e1, rfl, rfl, g1, g2, e2⟩
      · cases hc
    · cases hc
  case load t x =>
    simp only [Option.bind_eq_some_iff, Option.map_eq_some_iff] at hc
    obtain ⟨ag, ha, sz, hs, d, hd, rfl⟩ := hc
    exact readR hn hR rfl hr fun v hv => load_ok hn hR hop ha hs hd hv
  case store t x y =>
    simp only [Option.bind_eq_some_iff, Option.map_eq_some_iff] at hc
    obtain ⟨sz, hs, d, hd, e, he, rfl⟩ := hc
    unfold opRes at hr
    simp only [DOp.kind, effRes] at hr
    split at hr
    · rename_i id g off hx
      split at hr
      · rename_i g' cs hcs
        split at hr
        · rename_i hcond
          obtain ⟨rfl, c1, c2, c3⟩ := hcond
          injection hr with hr; subst hr
          exact store_ok hn hR hop hs hd he hx hcs c1 c2 c3
        · cases hr
      · cases hr
    · cases hr
  case nilCheck x =>
    simp only [Option.map_eq_some_iff] at hc
    obtain ⟨d, hd, rfl⟩ := hc
    exact pureR hn hR rfl hr fun v hv => nilck_ok hn hR hop hd hv
  case binOp op t x y u =>
    split at hc
    · rename_i hs
      simp only [Option.bind_eq_some_iff, Option.map_eq_some_iff] at hc
      obtain ⟨d, hd, e, he, rfl⟩ := hc
      exact pureR hn hR rfl hr fun v hv => binop_ok hop (hR.ev hn hd) (hR.ev hn he) hs hv
    · split at hc
      · rename_i ht
        simp only [Option.bind_eq_some_iff, Option.map_eq_some_iff] at hc
        obtain ⟨d, hd, e, he, rfl⟩ := hc
        exact pureR hn hR rfl hr fun v hv => eqB_ok hop rfl (hR.ev hn hd) (hR.ev hn he) ht hv
      · rename_i ht
        simp only [Option.bind_eq_some_iff, Option.map_eq_some_iff] at hc
        obtain ⟨d, hd, e, he, rfl⟩ := hc
        exact pureR hn hR rfl hr fun v hv => eqB_ok hop rfl (hR.ev hn hd) (hR.ev hn he) ht hv
      · rename_i e ht
        split at hc
        · rename_i hy
          simp only [Option.map_eq_some_iff] at hc
          obtain ⟨d, hd, rfl⟩ := hc
          exact eqN_ok hn hR hop rfl ht hy hd hr
        · cases hc
      · rename_i e ht
        split at hc
        · rename_i hy
          simp only [Option.map_eq_some_iff] at hc
          obtain ⟨d, hd, rfl⟩ := hc
          exact eqN_ok hn hR hop rfl ht hy hd hr
        · cases hc
      · simp only [Option.bind_eq_some_iff, Option.map_eq_some_iff] at hc
        obtain ⟨k, hk, d, hd, e, he, rfl⟩ := hc
        exact pureR hn hR rfl hr fun v hv => eqS_ok hn hR hop rfl hk hd he hv
      · simp only [Option.bind_eq_some_iff, Option.map_eq_some_iff] at hc
        obtain ⟨k, hk, d, hd, e, he, rfl⟩ := hc
        exact pureR hn hR rfl hr fun v hv => eqS_ok hn hR hop rfl hk hd he hv
      · cases hc
  case unOp op t x =>
    simp only [Option.map_eq_some_iff] at hc
    obtain ⟨d, hd, rfl⟩ := hc
    exact pureR hn hR rfl hr fun v hv => un_ok hn hR hop hd hv
  case convert src dst x =>
    split at hc
    · rename_i k' k h1 h2
      simp only [Option.map_eq_some_iff] at hc
      obtain ⟨d, hd, rfl⟩ := hc
      exact pureR hn hR rfl hr fun v hv => conv_ok hn hR hop h1 h2 hd hv
    · rename_i e h1 h2
      split at hc
      · rename_i he
        split at hc
        · simp only [Option.map_eq_some_iff] at hc
          obtain ⟨d, hd, rfl⟩ := hc
          exact readR hn hR rfl hr fun v hv => strOf_ok hn hR hop h1 he h2 hd hv
        · cases hc
      · cases hc
    · rename_i e h1 h2
      split at hc
      · rename_i he
        simp only [Option.map_eq_some_iff] at hc
        obtain ⟨d, hd, rfl⟩ := hc
        unfold opRes at hr
        simp only [DOp.kind, Option.map_eq_some_iff] at hr
        obtain ⟨v, hv, rfl⟩ := hr
        exact bytesOf_ok hn hR hop h1 h2 he hd hv
      · cases hc
    · rename_i h1 h2
      simp only [Option.map_eq_some_iff] at hc
      obtain ⟨d, hd, rfl⟩ := hc
      refine pureR hn hR rfl hr fun v hv => ?_
      have h3 := hR.ev hn hd
      simp only [pureVal] at hv
      split at hv
      · rename_i s hs
        simp only [optInt, Option.bind_some] at hv
        split at hv
        · injection hv with hv; subst hv
          rw [hs] at h3
          refine ⟨.string ⟨s.toArray⟩, ?_, ?_⟩
          · simp [execOp, hop, h3.str, convert, run_underlying h1, run_underlying h2]
          · have e : (s.drop (0 : Int).toNat).take ((s.length : Int) - 0).toNat = s := by simp
            rw [e]
            exact .one (.one (.str s))
        · cases hv
      · cases hv
    · cases hc
  case makeFunc fn first captured =>
    cases fn <;> simp only [cOp] at hc <;> try (cases hc; done)
    rename_i f
    split at hc
    · rename_i h0
      simp only [Option.bind_eq_some_iff, Option.map_eq_some_iff] at hc
      obtain ⟨k, hk, ds, hds, rfl⟩ := hc
      exact pureR hn hR rfl hr fun v hv => mkfn_ok hn hR hop h0 hk hds hv
    · cases hc
  case makeMap t r =>
    cases r with
    | none =>
      simp only [cOp] at hc
      split at hc
      · simp only [Option.map_eq_some_iff] at hc
        obtain ⟨kk, _, rfl⟩ := hc
        refine newR hn hR rfl hr fun ob f hv => ?_
        simp only [newVal, Option.some.injEq, Prod.mk.injEq] at hv
        obtain ⟨rfl, rfl⟩ := hv
        exact mkmap_ok hn hR hop
      · cases hc
    | some _ => cases hc
  case makeSlice t l c =>
    split at hc
    · rename_i e ht
      simp only [Option.bind_eq_some_iff] at hc
      obtain ⟨z, hz, hc⟩ := hc
      split at hc
      · rename_i hcond
        simp only [Option.bind_eq_some_iff, Option.map_eq_some_iff] at hc
        obtain ⟨dl, hl, dc, hdc, rfl⟩ := hc
        exact newR hn hR rfl hr fun ob f hv => mkslice_ok hn hR hop ht hz hcond.1 hcond.2.1 hcond.2.2 hl hdc hv
      · cases hc
    · cases hc
  case slice t x lo hi mx =>
    split at hc
    · rename_i e ht
      simp only [Option.bind_eq_some_iff] at hc
      obtain ⟨sz, hs, d, hd, dlo, h1, dhi, h2, dmx, h3, hc⟩ := hc
      split at hc
      · cases hc
      · rename_i hok
        injection hc with hc; subst hc
        exact pureR hn hR rfl hr fun v hv => slice_ok hn hR hop ht hs hd h1 h2 h3 hok hv
    · rename_i ht
      split at hc
      · cases hc
      · rename_i hmx
        simp only [Option.bind_eq_some_iff, Option.map_eq_some_iff] at hc
        obtain ⟨d, hd, dlo, h1, dhi, h2, rfl⟩ := hc
        exact pureR hn hR rfl hr fun v hv => sliceStr_ok hn hR hop hmx ht hd h1 h2 hv
    · rename_i len e ht
      split at hc
      · cases hc
      · rename_i hmx
        simp only [Option.bind_eq_some_iff, Option.map_eq_some_iff] at hc
        obtain ⟨sz, hs, d, hd, dlo, h1, dhi, h2, rfl⟩ := hc
        exact readR hn hR rfl hr fun v hv => sliceA_ok hn hR hop hmx ht hs hd h1 h2 hv
    · cases hc
  case fieldAddr t x i =>
    split at hc
    · rename_i fs ht
      simp only [Option.bind_eq_some_iff] at hc
      obtain ⟨f, hf, sz, hs, hc⟩ := hc
      split at hc
      · cases hc
      · rename_i h0
        simp only [Option.map_eq_some_iff] at hc
        obtain ⟨d, hd, rfl⟩ := hc
        exact pureR hn hR rfl hr fun v hv => fieldAddr_ok hn hR hop ht hf hs h0 hd hv
    · cases hc
  case field t x i =>
    split at hc
    · rename_i fs ht
      simp only [Option.bind_eq_some_iff, Option.map_eq_some_iff] at hc
      obtain ⟨f, hf, ag, ha, sz, hs, d, hd, rfl⟩ := hc
      exact pureR hn hR rfl hr fun v hv => field_ok hn hR hop ht hf ha hs hd hv
    · cases hc
  case indexAddr t x i =>
    split at hc
    · rename_i e ht
      simp only [Option.bind_eq_some_iff] at hc
      obtain ⟨sz, hs, hc⟩ := hc
      split at hc
      · cases hc
      · rename_i h0
        simp only [Option.bind_eq_some_iff, Option.map_eq_some_iff] at hc
        obtain ⟨d, hd, di, hdi, rfl⟩ := hc
        exact pureR hn hR rfl hr fun v hv => indexAddr_ok hn hR hop ht hs h0 hd hdi hv
    · rename_i m e ht
      simp only [Option.bind_eq_some_iff] at hc
      obtain ⟨sz, hs, hc⟩ := hc
      split at hc
      · cases hc
      · rename_i h0
        simp only [Option.bind_eq_some_iff, Option.map_eq_some_iff] at hc
        obtain ⟨d, hd, di, hdi, rfl⟩ := hc
        exact pureR hn hR rfl hr fun v hv => indexAddrA_ok hn hR hop ht hs h0 hd hdi hv
    · cases hc
  case index t x i =>
    split at hc
    · rename_i m e ht
      simp only [Option.bind_eq_some_iff] at hc
      obtain ⟨ag, ha, sz, hs, hc⟩ := hc
      split at hc
      · cases hc
      · rename_i h0
        simp only [Option.bind_eq_some_iff, Option.map_eq_some_iff] at hc
        obtain ⟨d, hd, di, hdi, rfl⟩ := hc
        exact pureR hn hR rfl hr fun v hv => indexA_ok hn hR hop ht ha hs h0 hd hdi hv
    · rename_i ht
      simp only [Option.bind_eq_some_iff, Option.map_eq_some_iff] at hc
      obtain ⟨d, hd, di, hdi, rfl⟩ := hc
      exact pureR hn hR rfl hr fun v hv => indexStr_ok hn hR hop ht hd hdi hv
    · cases hc
  case lookup t x k ok =>
    split at hc
    · rename_i kt e ht
      simp only [Option.bind_eq_some_iff, Option.map_eq_some_iff] at hc
      obtain ⟨kk, hkk, z0, hz0, z, hz, d, hd, d', hd', rfl⟩ := hc
      exact readR hn hR rfl hr fun v hv => lookup_ok hn hR hop ht hkk (Option.bind_eq_some_iff.2 hz0) hz hd hd' hv
    · cases hc
  case mapUpdate t m k x =>
    split at hc
    · rename_i kt e ht
      simp only [Option.bind_eq_some_iff, Option.map_eq_some_iff] at hc
      obtain ⟨kk, hkk, d, hd, d', hd', d2, hd2, rfl⟩ := hc
      exact update_ok hn hR (.inl hop) ht hkk hd hd' hd2 hr
    · cases hc
  case insert t m k x =>
    split at hc
    · rename_i kt e ht
      simp only [Option.bind_eq_some_iff, Option.map_eq_some_iff] at hc
      obtain ⟨kk, hkk, d, hd, d', hd', d2, hd2, rfl⟩ := hc
      exact update_ok hn hR (.inr hop) ht hkk hd hd' hd2 hr
    · cases hc
  case extract x i =>
    simp only [Option.map_eq_some_iff] at hc
    obtain ⟨d, hd, rfl⟩ := hc
    exact pureR hn hR rfl hr fun v hv => extract_ok hn hR hop hd hv
  case panic x =>
    injection hc with hc; subst hc
    simp [opRes, DOp.kind, pureVal] at hr
  case makeInterface t x =>
    injection hc with hc; subst hc
    simp [opRes, DOp.kind, pureVal] at hr
  case call c =>
    split at hc
    · simp only [Option.bind_eq_some_iff, Option.map_eq_some_iff] at hc
      obtain ⟨k, hk, as, has, rfl⟩ := hc
      simp [opRes, DOp.kind] at hr
    · simp only [Option.map_eq_some_iff] at hc
      obtain ⟨as, has, rfl⟩ := hc
      simp [opRes, DOp.kind] at hr
    · rename_i x t h1 h2 h3
      split at hc
      · rename_i ht
        simp only [Option.map_eq_some_iff] at hc
        obtain ⟨d, hd, rfl⟩ := hc
        exact readR hn hR rfl hr fun v hv => len_ok hn hR hop h1 h2 h3 (.inl ⟨rfl, ht⟩) hd hv
      · rename_i e ht
        simp only [Option.map_eq_some_iff] at hc
        obtain ⟨d, hd, rfl⟩ := hc
        exact readR hn hR rfl hr fun v hv => len_ok hn hR hop h1 h2 h3 (.inr (.inl ⟨rfl, e, ht⟩)) hd hv
      · rename_i k e ht
        simp only [Option.map_eq_some_iff] at hc
        obtain ⟨d, hd, rfl⟩ := hc
        exact readR hn hR rfl hr fun v hv => len_ok hn hR hop h1 h2 h3 (.inr (.inr ⟨rfl, k, e, ht⟩)) hd hv
      · cases hc
    · rename_i x y t u h1 h2 h3
      have ha' : c.args = #[x, y] := Array.toList_inj.1 (by simpa using h2)
      have hat' : c.argTypes = #[t, u] := Array.toList_inj.1 (by simpa using h3)
      split at hc
      · rename_i e e' ht hu
        simp only [Option.bind_eq_some_iff] at hc
        obtain ⟨sz, hs, hc⟩ := hc
        split at hc
        · rename_i hcond
          simp only [Option.bind_eq_some_iff, Option.map_eq_some_iff] at hc
          obtain ⟨d, hd, d2, hd2, rfl⟩ := hc
          exact append_ok hn hR ⟨c, t, u, e, hop, h1, ha', hat', ht, .inl ⟨e', hu⟩, hs, hcond.1, hcond.2.1, hcond.2.2⟩ hd hd2 hr
        · cases hc
      · rename_i e ht hu
        simp only [Option.bind_eq_some_iff] at hc
        obtain ⟨sz, hs, hc⟩ := hc
        split at hc
        · rename_i hcond
          simp only [Option.bind_eq_some_iff, Option.map_eq_some_iff] at hc
          obtain ⟨d, hd, d2, hd2, rfl⟩ := hc
          exact append_ok hn hR ⟨c, t, u, e, hop, h1, ha', hat', ht, .inr hu, hs, hcond.1, hcond.2.1, hcond.2.2⟩ hd hd2 hr
        · cases hc
      · cases hc
    · rename_i x t h1 h2 h3
      split at hc
      · rename_i e ht
        simp only [Option.bind_eq_some_iff, Option.map_eq_some_iff] at hc
        obtain ⟨z, hz, d, hd, rfl⟩ := hc
        exact clear_ok hn hR hop h1 (Array.toList_inj.1 (by simpa using h2)) (Array.toList_inj.1 (by simpa using h3)) ht hz hd hr
      · cases hc
    · rename_i x y t u h1 h2 h3
      split at hc
      · rename_i e ht
        simp only [Option.bind_eq_some_iff, Option.map_eq_some_iff] at hc
        obtain ⟨sz, hs, d, hd, d2, hd2, rfl⟩ := hc
        exact copy_ok hn hR hop h1 (Array.toList_inj.1 (by simpa using h2)) (Array.toList_inj.1 (by simpa using h3)) ht hs hd hd2 hr
      · cases hc
    · rename_i x y h1 h2
      simp only [Option.bind_eq_some_iff, Option.map_eq_some_iff] at hc
      obtain ⟨d, hd, d2, hd2, rfl⟩ := hc
      exact pureR hn hR rfl hr fun v hv => mx_ok hn hR hop h1 h2 hd hd2 hv
    · rename_i x y h1 h2
      simp only [Option.bind_eq_some_iff, Option.map_eq_some_iff] at hc
      obtain ⟨d, hd, d2, hd2, rfl⟩ := hc
      exact pureR hn hR rfl hr fun v hv => mn_ok hn hR hop h1 h2 hd hd2 hv
    · cases hc
  all_goals (cases hc; done)
end
end Go.Proofs.YtdldfflfbfpngaaGreatDoor
set_option linter.unusedSimpArgs false
set_option linter.unusedVariables false
set_option linter.unusedSectionVars false
namespace Go.Proofs.YtdldfflfbfpngaaGreatDoor
open Go
section
variable {φ : Phi} {num : FuncId → Option Nat} {P : Program} {X : Ctx} {n bs : Nat} {env : Env} {act : Act} {o : Oper} {v : AV}
theorem ROk.frozen {X' : Ctx} (hw : X'.w = X.w) (hm : ∀ B, X'.Mut B → X.Mut B) {a : Addr} {vs : List Value} (h : ROk X a vs) : ROk X' a vs :=
  ⟨h.1, by rw [hw]; exact h.2.1, fun k => h.2.2.1 (hm _ k), by rw [hw]; exact h.2.2.2⟩
mutual
theorem VC.frozen {X' : Ctx} (hw : X'.w = X.w) (hm : ∀ B, X'.Mut B → X.Mut B) : ∀ {a : AV} {v : Value}, VC φ X a v → a.frozen = true → VC φ X' a v
  | _, _, .bool b, _ => .bool b
  | _, _, .int k n, _ => .int k n
  | _, _, .str s, _ => .str s
  | _, _, .nilp, _ => .nilp
  | _, _, .ptr hid hg, h => by simp [AV.frozen] at h
  | _, _, .rp hr hc, h => .rp (hr.frozen hw hm) (hc.frozen hw hm (by simpa [AV.frozen] using h))
  | _, _, .rd hr hc hn hf, h => .rd (fun hne => let ⟨a0, e, r⟩ := hr hne; ⟨a0, e, r.frozen hw hm⟩) (hc.frozen hw hm (by simpa [AV.frozen] using h)) hn hf
  | _, _, .own hid hl ha hg, h => by simp [AV.frozen] at h
  | _, _, .nilm, _ => .nilm
  | _, _, .map hid hg, h => by simp [AV.frozen] at h
  | _, _, .fn hf hc, h => .fn hf (hc.frozen hw hm (by simpa [AV.frozen] using h))
  | _, _, .nilf, _ => .nilf
  | _, _, .yield hid hg, h => by simp [AV.frozen] at h
  | _, _, .nili, _ => .nili
theorem VCs.frozen {X' : Ctx} (hw : X'.w = X.w) (hm : ∀ B, X'.Mut B → X.Mut B) : ∀ {as : List AV} {vs : List Value}, VCs φ X as vs → AV.frozenL as = true → VCs φ X' as vs
  | _, _, .nil, _ => .nil
  | _, _, .cons a b, h => by
    simp only [AV.frozenL, Bool.and_eq_true] at h
    exact .cons (a.frozen hw hm h.1) (b.frozen hw hm h.2)
end
theorem VR.frozen {X' : Ctx} (hw : X'.w = X.w) (hm : ∀ B, X'.Mut B → X.Mut B) {a : AV} {v : Value} (h : VR φ X a v) (hf : a.frozen = true) : VR φ X' a v := by
  cases h with
  | one h => exact .one (h.frozen hw hm hf)
  | agg h => exact .agg (h.frozen hw hm (by simpa [AV.frozen] using hf))
  | undef => exact .undef _
theorem VRs.frozen {X' : Ctx} (hw : X'.w = X.w) (hm : ∀ B, X'.Mut B → X.Mut B) : ∀ {as : List AV} {vs : List Value}, VRs φ X as vs → AV.frozenL as = true → VRs φ X' as vs
  | _, _, .nil, _ => .nil
  | _, _, .cons a b, h => by
    simp only [AV.frozenL, Bool.and_eq_true] at h
    exact .cons (a.frozen hw hm h.1) (b.frozen hw hm h.2)
theorem VT.frozen {X' : Ctx} (hw : X'.w = X.w) (hm : ∀ B, X'.Mut B → X.Mut B) {a : AV} {v : Value} (h : VT φ X a v) (hf : a.frozen = true) : VT φ X' a v := by
  cases h with
  | one h => exact .one (h.frozen hw hm hf)
  | tup h => exact .tup (h.frozen hw hm (by simpa [AV.frozen] using hf))
theorem Heap.ext' {x y : Heap} (e : x.get = y.get) : x = y := by cases x; cases y; cases e; rfl
open Classical in
noncomputable def Ctx.frz (X : Ctx) (S : Nat → Prop) : Ctx := ⟨fun i => if S i then none else X.κ i, X.h.drop S, X.w, X.M⟩
theorem frz_ok (hX : HeapOk φ X) (S : Nat → Prop) : Le X (X.frz S) ∧ HeapOk φ (X.frz S) ∧ ∀ id B base, S id → X.κ id = some (B, base) → ¬ (X.frz S).Mut B := by
  have hk : ∀ i x, (X.frz S).κ i = some x → ¬ S i ∧ X.κ i = some x := fun i x h => by
    simp only [Ctx.frz] at h
    split at h
    · cases h
    · rename_i hs; exact ⟨hs, h⟩
  have hg : ∀ i o, (X.frz S).h.get i = some o → ¬ S i ∧ X.h.get i = some o := fun i o h => by
    simp only [Ctx.frz, Heap.drop] at h
    split at h
    · cases h
    · rename_i hs; exact ⟨hs, h⟩
  have hle : Le X (X.frz S) := {
    size := Nat.le_refl _
    os := rfl
    output := rfl
    M := rfl
    kept := fun _ _ _ => rfl
    muts := fun id B base h => .inl ⟨id, base, (hk _ _ h).2⟩
    shape := fun B C T fr h => ⟨C, h, rfl⟩
    gen := fun id _ g cs h => ⟨g, cs, (hg _ _ h).2, Nat.le_refl _, fun _ => by simp [Ctx.frz, (hg _ _ h).1]⟩
    map := fun id _ kk es h => ⟨kk, es, (hg _ _ h).2, by simp [Ctx.frz, (hg _ _ h).1]⟩
    loop := fun id _ st p env ps a b h => ⟨⟨st, p, env, ps, a, b, (hg _ _ h).2⟩, by simp [Ctx.frz, (hg _ _ h).1]⟩ }
  refine ⟨hle, ⟨fun id g cs h => ?_, fun id kk es h => ?_, fun id st p env ps a b h => ?_, fun i j B b1 b2 h1 h2 => hX.inj _ _ _ _ _ (hk _ _ h1).2 (hk _ _ h2).2, fun id B base h => ?_, fun id o h => hX.ids _ _ (hg _ _ h).2, hX.mine, fun id cs h => ?_⟩, fun id B base hs h hm => ?_⟩
  · obtain ⟨B, base, C, T, vs, k1, k2, k3, k4, k5⟩ := hX.cells id g cs (hg _ _ h).2
    exact ⟨B, base, C, T, vs, by simp [Ctx.frz, (hg _ _ h).1, k1], k2, k3, k4.le hle, k5⟩
  · obtain ⟨B, ents, clock, k1, k2, k3⟩ := hX.maps id kk es (hg _ _ h).2
    exact ⟨B, ents, clock, by simp [Ctx.frz, (hg _ _ h).1, k1], k2, k3.le hle⟩
  · obtain ⟨B, k1, k2⟩ := hX.loops id _ _ _ _ _ _ (hg _ _ h).2
    exact ⟨B, by simp [Ctx.frz, (hg _ _ h).1, k1], k2.le hle rfl⟩
  · obtain ⟨k1, k2, o, k3⟩ := hX.dom id B base (hk _ _ h).2
    exact ⟨k1, k2, o, by simp [Ctx.frz, Heap.drop, (hk _ _ h).1, k3]⟩
  · obtain ⟨B, k⟩ := hX.zero id cs (hg _ _ h).2
    exact ⟨B, by simp [Ctx.frz, (hg _ _ h).1, k]⟩
  · rcases hm with hm | ⟨id', base', hm⟩
    · exact (hX.dom _ _ _ h).2.1 hm
    · obtain ⟨m1, m2⟩ := hk _ _ hm
      obtain rfl := hX.inj _ _ _ _ _ h m2
      exact m1 hs
theorem VC.ptrOk (hX : HeapOk φ X) {id g off : Nat} {w : Value} (h : VC φ X (.ptr id g off) w) {cs : List AV} (hc : X.h.get id = some (.cells g cs)) : ∃ B base C T vs, w = .pointer (some ⟨B, base + off, none⟩) ∧ X.κ id = some (B, base) ∧ X.w.heap[B]? = some (.cells C T (0, 0)) ∧ base + cs.length ≤ C.size ∧ VCs φ X cs vs ∧ ∀ (j : Nat) (v : Value), vs[j]? = some v → C[base + j]? = some v := by
  cases h with
  | ptr hid hg =>
    obtain ⟨B, base, k1, rfl⟩ := (hg g cs hc).2 rfl
    obtain ⟨B2, base2, C, T, vs, q1, q2, q3, q4, q5⟩ := hX.cells id g cs hc
    rw [k1] at q1
    injection q1 with q1
    injection q1 with e1 e2
    subst e1 e2
    exact ⟨B, base, C, T, vs, rfl, k1, q2, q3, q4, q5⟩
mutual
theorem FzV.ok {S : Nat → Prop} {Xf : Ctx} (hX : HeapOk φ X) (hle : Le X Xf) (hw : Xf.w = X.w) (hS : ∀ id B base, S id → X.κ id = some (B, base) → ¬ Xf.Mut B) : ∀ {a a' : AV}, FzV X.h S a a' → ∀ {v : Value}, VC φ X a v → VC φ Xf a' v
  | _, _, .same a, _, h => h.le hle
  | _, _, .own (len := len) hs hg hl hc, _, h => by
      obtain ⟨a, cap, B, base, C, T, vs, rfl, hlc, ha, hC, hlim, k1, k2, k3, k4, k5⟩ := VC.of_own hX h hg
      obtain ⟨q1, q2, q3⟩ := view_cells k4 k5 hl
      refine .rd (fun hne => ?_) (FzL.ok hX hle hw hS hc q1) hlc (fun h => by cases h)
      have hcap : 0 < cap := by
        rcases hne with h | h
        · omega
        · rcases Nat.eq_zero_or_pos cap with h0 | h0
          · exfalso
            apply h
            apply List.eq_nil_of_length_eq_zero
            have hl0 : len = 0 := by omega
            rw [q2, hl0]
            simp
          · exact h0
      refine ⟨_, ha hcap, rfl, ?_, hS _ _ _ hs k1, fun j v hj => ?_⟩
      · rw [hw]; exact (hX.dom _ _ _ k1).1
      · rw [hw, cell_row k2]
        exact q3 j v hj
  | _, _, .ptr (off := off) hs hg hl hc, _, h => by
      obtain ⟨B, base, C, T, vs, rfl, k1, k2, k3, k4, k5⟩ := VC.ptrOk hX h hg
      refine .rp (vs := vs.drop off) ⟨rfl, ?_, hS _ _ _ hs k1, fun j v hj => ?_⟩ (FzL.ok hX hle hw hS hc (k4.drop off))
      · rw [hw]; exact (hX.dom _ _ _ k1).1
      · rw [hw, cell_row k2]
        rw [List.getElem?_drop] at hj
        rw [Nat.add_assoc]
        exact k5 _ _ hj
  | _, _, .rd hc hf, _, h => by
      cases h with
      | rd hr hcs hn2 hf2 => exact .rd (fun hne => let ⟨a0, e, r⟩ := hr hne; ⟨a0, e, r.le hle⟩) (FzL.ok hX hle hw hS hc hcs) hn2 (fun h => hf2 (hf h))
  | _, _, .rp hc, _, h => by
      cases h with
      | rp hr hcs => exact .rp (hr.le hle) (FzL.ok hX hle hw hS hc hcs)
  | _, _, .agg hc, _, h => by cases h
  | _, _, .tup hc, _, h => by cases h
  | _, _, .fn hc, _, h => by
      cases h with
      | fn hf hcs => exact .fn hf (FzL.ok hX hle hw hS hc hcs)
  | _, _, .iface hv, _, h => by cases h
theorem FzL.ok {S : Nat → Prop} {Xf : Ctx} (hX : HeapOk φ X) (hle : Le X Xf) (hw : Xf.w = X.w) (hS : ∀ id B base, S id → X.κ id = some (B, base) → ¬ Xf.Mut B) : ∀ {as as' : List AV}, FzL X.h S as as' → ∀ {vs : List Value}, VCs φ X as vs → VCs φ Xf as' vs
  | _, _, .nil, _, h => by cases h; exact .nil
  | _, _, .cons ha hr, _, h => by
      cases h with
      | cons h1 h2 => exact .cons (FzV.ok hX hle hw hS ha h1) (FzL.ok hX hle hw hS hr h2)
end
theorem FzV.vr {S : Nat → Prop} (hX : HeapOk φ X) {a a' : AV} (hf : FzV X.h S a a') {v : Value} (h : VR φ X a v) : VR φ (X.frz S) a' v := by
  obtain ⟨hle, _, hS⟩ := frz_ok hX S
  cases h with
  | one h => exact .one (FzV.ok hX hle rfl hS hf h)
  | agg h => cases hf with
    | same => exact .agg (h.le hle)
    | agg hc => exact .agg (FzL.ok hX hle rfl hS hc h)
  | undef => cases hf; exact .undef _
theorem FzV.vt {S : Nat → Prop} (hX : HeapOk φ X) {a a' : AV} (hf : FzV X.h S a a') {v : Value} (h : VT φ X a v) : VT φ (X.frz S) a' v := by
  obtain ⟨hle, _, hS⟩ := frz_ok hX S
  have hvr : ∀ {a a' : AV} {v : Value}, FzV X.h S a a' → VR φ X a v → VR φ (X.frz S) a' v := fun {a a' v} hf h => by
    cases h with
    | one h => exact .one (FzV.ok hX hle rfl hS hf h)
    | agg h => cases hf with
      | same => exact .agg (h.le hle)
      | agg hc => exact .agg (FzL.ok hX hle rfl hS hc h)
    | undef => cases hf; exact .undef _
  cases h with
  | one h => exact .one (hvr hf h)
  | tup h => cases hf with
    | same => exact .tup (h.le hle)
    | tup hc =>
      refine .tup ?_
      clear hS
      rename_i as vs cs'
      induction h generalizing cs' with
      | nil => cases hc; exact .nil
      | cons a b ih => cases hc with
        | cons h1 h2 => exact .cons (hvr h1 a) (ih h2)
theorem FzL.vrs {S : Nat → Prop} (hX : HeapOk φ X) : ∀ {as as' : List AV}, FzL X.h S as as' → ∀ {vs : List Value}, VRs φ X as vs → VRs φ (X.frz S) as' vs
  | _, _, .nil, _, h => by cases h; exact .nil
  | _, _, .cons ha hr, _, h => by
      cases h with
      | cons h1 h2 => exact .cons (FzV.vr hX ha h1) (FzL.vrs hX hr h2)
def CallOk (φ : Phi) (P : Program) (X : Ctx) (Q : AV → Heap → Prop) (e : Ending) (w' : World) : Prop :=
  ∃ v v' X', e = .returned v' ∧ X'.w = w' ∧ Le X X' ∧ HeapOk φ X' ∧ VT φ X' v v' ∧ Q v X'.h
theorem CallOk.quiet {Q : AV → Heap → Prop} {e : Ending} {w' : World} (h : CallOk φ P X (fun v h' => X.h.Ext h' ∧ Q v X.h) e w') : CallOk φ P X Q e w' := by
  obtain ⟨v, v', X', he, hw', hle, hok, hvt, hext, hq⟩ := h
  obtain ⟨f1, f2, f3⟩ := frz_ok hok (fun id => X.h.get id = none)
  refine ⟨v, v', X'.frz (fun id => X.h.get id = none), he, hw', hle.trans f1, f2, hvt.le f1, ?_⟩
  have : (X'.frz (fun id => X.h.get id = none)).h = X.h := by
    apply Heap.ext'
    funext id
    simp only [Ctx.frz, Heap.drop]
    by_cases hx : X.h.get id = none
    · rw [if_pos hx, hx]
    · rw [if_neg hx]
      obtain ⟨o, ho⟩ := Option.ne_none_iff_exists'.1 hx
      rw [ho, hext id o ho]
  rw [this]
  exact hq
abbrev fc (r : Option Nat) : Fence := { Fence.wide with round := r }
theorem callsIn_fc {r : Option Nat} {n : Nat} {P : Program} {f : FuncId} {args : Array Value} {w : World} {R : Ending → World → Prop} (h : Calls P f args w R) : CallsIn (fc r) n P f args w R :=
  (callsIn_wide (n := n)).2 h
theorem calls_fc {r : Option Nat} {n : Nat} {P : Program} {f : FuncId} {args : Array Value} {w : World} {R : Ending → World → Prop} (h : CallsIn (fc r) n P f args w R) : Calls P f args w R :=
  (callsIn_wide (n := n)).1 h
structure FOk (φ : Phi) (P : Program) (F : FnSem) : Prop where
  fn : ∀ f args h Q, F f args h Q → ∀ X vals fid, X.h = h → HeapOk φ X → VRs φ X args vals → φ f = some fid → Calls P fid vals.toArray X.w (CallOk φ P X Q)
  yield : ∀ id args h Q, F yieldFn (.yield id :: args) h Q → ∀ X vals l, X.h = h → HeapOk φ X → VRs φ X args vals → VC φ X (.yield id) (.func (.yield l) #[] #[]) →
    ∃ fn tmps a b, (Instr.yield l vals.toArray).run P X.w = .ok (.round l fn tmps a b) X.w ∧ ∀ r, RoundIn (fc r) 0 P l fn tmps a b X.w (CallOk φ P X Q)
theorem wcall_yield {F : FnSem} (hF : FOk φ P F) {p id : Nat} {args : List AV} {Q : AV → Heap → Prop} (hw : wcall F p yieldFn (.yield id :: args) X.h Q) (hX : HeapOk φ X) {vals : List Value} (hv : VRs φ X args vals) {l : Nat} (hl : VC φ X (.yield id) (.func (.yield l) #[] #[])) :
    ∃ fn tmps a b, (Instr.yield l vals.toArray).run P X.w = .ok (.round l fn tmps a b) X.w ∧ ∀ r, RoundIn (fc r) 0 P l fn tmps a b X.w (CallOk φ P X Q) := by
  rcases hw with ⟨_, hw⟩ | ⟨_, hw⟩ | ⟨hz, hw⟩ | ⟨_, hy, _⟩
  · exact hF.yield id args X.h Q hw X vals l rfl hX hv hl
  · obtain ⟨fn, tmps, a, b, h1, h2⟩ := hF.yield id args X.h _ hw X vals l rfl hX hv hl
    exact ⟨fn, tmps, a, b, h1, fun r => (h2 r).mono fun e w' h => h.quiet⟩
  · simp [AV.frozenL, AV.frozen] at hz
  · simp at hy
theorem CallOk.before {X0 : Ctx} {Q : AV → Heap → Prop} (hle : Le X0 X) {e : Ending} {w' : World} (h : CallOk φ P X Q e w') : CallOk φ P X0 Q e w' := by
  obtain ⟨v, v', X', he, hw', hle', hok, hvt, hq⟩ := h
  exact ⟨v, v', X', he, hw', hle.trans hle', hok, hvt, hq⟩
theorem wcall_pure {F : FnSem} (hF : FOk φ P F) {f : Nat} {args : List AV} {Q : AV → Heap → Prop} (hz : AV.frozenL args = true) (hw : F f args Heap.empty (fun v _ => v.frozen = true ∧ Q v X.h)) (hX : HeapOk φ X) {vals : List Value} (hv : VRs φ X args vals) {fid : FuncId} (hf : φ f = some fid) :
    Calls P fid vals.toArray X.w (CallOk φ P X Q) := by
  let X0 : Ctx := ⟨fun _ => none, Heap.empty, X.w, X.Mut⟩
  have hm : ∀ B, X0.Mut B ↔ X.Mut B := fun B => ⟨fun h => h.elim id (fun ⟨_, _, h⟩ => by cases h), .inl⟩
  have h0 : HeapOk φ X0 := {
    cells := fun id g cs h => by cases h
    maps := fun id kk es h => by cases h
    zero := fun id cs h => by cases h
    loops := fun id st p env ps a b h => by cases h
    inj := fun _ _ _ _ _ h => by cases h
    dom := fun _ _ _ h => by cases h
    ids := fun _ _ h => by cases h
    mine := fun B h => by
      rcases h with h | ⟨id, base, h⟩
      · exact hX.mine B h
      · exact (hX.dom _ _ _ h).1 }
  refine (hF.fn f args _ _ hw X0 vals fid rfl h0 (VRs.frozen (X := X) (X' := X0) rfl (fun B h => (hm B).1 h) hv hz) hf).mono ?_
  rintro e w' ⟨v, v', X', he, hw', hle, hok, hvt, hfz, hq⟩
  have hk : ∀ B, B < X.w.heap.size → X'.w.heap[B]? = X.w.heap[B]? := fun B hB => hle.kept B hB (fun _ _ h => by cases h)
  have hle1 : Le X { X with w := X'.w } := {
    size := hle.size
    os := hle.os
    output := hle.output
    M := rfl
    kept := fun B hB _ => hk B hB
    muts := fun id B base h => .inl ⟨id, base, h⟩
    shape := fun B C T fr h => ⟨C, by rw [← h]; exact hk B (Array.getElem?_eq_some_iff.1 h).1, rfl⟩
    gen := fun id _ g cs h => ⟨g, cs, h, Nat.le_refl _, fun _ => rfl⟩
    map := fun id _ kk es h => ⟨kk, es, h, rfl⟩
    loop := fun id _ st p env ps a b h => ⟨⟨st, p, env, ps, a, b, h⟩, rfl⟩ }
  refine ⟨v, v', { X with w := X'.w }, he, hw', hle1, ?_, ?_, hq⟩
  · refine ⟨fun id g cs h => ?_, fun id kk es h => ?_, fun id st p env ps a b h => ?_, hX.inj, fun id B base h => ?_, fun id o h => ?_, fun B h => ?_, hX.zero⟩
    · obtain ⟨B, base, C, T, vs, k1, k2, k3, k4, k5⟩ := hX.cells id g cs h
      exact ⟨B, base, C, T, vs, k1, (hk B (hX.dom _ _ _ k1).1).trans k2, k3, k4.le hle1, k5⟩
    · obtain ⟨B, ents, clock, k1, k2, k3⟩ := hX.maps id kk es h
      exact ⟨B, ents, clock, k1, (hk B (hX.dom _ _ _ k1).1).trans k2, k3.le hle1⟩
    · obtain ⟨B, k1, k2⟩ := hX.loops id _ _ _ _ _ _ h
      exact ⟨B, k1, k2.le hle1 (hk B (hX.dom _ _ _ k1).1)⟩
    · obtain ⟨k1, k2, k3⟩ := hX.dom id B base h
      exact ⟨Nat.lt_of_lt_of_le k1 hle.size, k2, k3⟩
    · exact Nat.lt_of_lt_of_le (hX.ids id o h) hle.size
    · exact Nat.lt_of_lt_of_le (hX.mine B h) hle.size
  · refine VT.frozen (X := X') (X' := { X with w := X'.w }) rfl (fun B h => .inl ?_) hvt hfz
    rw [hle.M]
    exact h
theorem wcall_ok {F : FnSem} (hF : FOk φ P F) {p : Nat} {f : Nat} {args : List AV} {Q : AV → Heap → Prop} (hw : wcall F p f args X.h Q) (hX : HeapOk φ X) {vals : List Value} (hv : VRs φ X args vals) {fid : FuncId} (hf : φ f = some fid) :
    Calls P fid vals.toArray X.w (CallOk φ P X Q) := by
  rcases hw with ⟨_, hw⟩ | ⟨_, hw⟩ | ⟨hz, hw⟩ | ⟨_, _, S, args', hfz, hz, hw⟩
  · exact hF.fn f args X.h Q hw X vals fid rfl hX hv hf
  · exact (hF.fn f args X.h _ hw X vals fid rfl hX hv hf).mono fun e w' h => h.quiet
  · exact wcall_pure hF hz hw hX hv hf
  · obtain ⟨hle, hX2, _⟩ := frz_ok hX S
    exact (wcall_pure (X := X.frz S) hF hz hw hX2 (hfz.vrs hX hv) hf).mono fun e w' h => h.before hle
def Enters (φ : Phi) (P : Program) : Prop := ∀ k fid, φ k = some fid → ∃ fn, P.funcs[fid]? = some fn ∧ fn.body.isSome = true ∧ (fn.name == "runtime.NumGoroutine") = false
theorem run_callFunc (hE : Enters φ P) {k : Nat} {fid : FuncId} (hk : φ k = some fid) (args : Array Value) (w : World) : (callFunc fid args).run P w = .ok (.enter fid args) w := by
  obtain ⟨fn, h1, h2, h3⟩ := hE k fid hk
  have h4 : fn.body.isNone = false := by cases hb : fn.body <;> simp_all
  have h5 : ¬ fn.name = "runtime.NumGoroutine" := by simpa using h3
  have h6 : ¬ fn.body = none := by intro h; simp [h] at h2
  simp [callFunc, h1, h5, h6]
variable (hn : ∀ f k, num f = some k → φ k = some f) (hR : Rel φ n bs X env act)
include hn hR
theorem args_ok : ∀ {xs : List Operand} {ds : List DOpd}, cOpds num xs = some ds → (∀ d ∈ ds, (!(ev env d).isTup) = true) → VRs φ X (ds.map (ev env)) (xs.map act.eval)
  | [], ds, h, _ => by simp [cOpds] at h; subst h; exact .nil
  | x :: xs, ds, h, hf => by
    simp only [cOpds, Option.bind_eq_some_iff, Option.map_eq_some_iff] at h
    obtain ⟨d, hd, es, he, rfl⟩ := h
    have h1 := hR.ev hn hd
    have h2 := hf d (by simp)
    refine .cons ?_ (args_ok he fun d hd => hf d (by simp [hd]))
    generalize ev env d = a at h1 h2
    generalize act.eval x = y at h1
    cases h1 with
    | one h => exact h
    | tup h => simp [AV.isTup] at h2
theorem VRs.append {as : List AV} {vs : List Value} (h : VRs φ X as vs) {bs : List AV} {ws : List Value} (k : VCs φ X bs ws) : VRs φ X (as ++ bs) (vs ++ ws) := by
  induction h with
  | nil =>
    simp only [List.nil_append]
    clear hn hR
    induction bs generalizing ws with
    | nil => cases k; exact .nil
    | cons b bs ih => cases k with
      | cons hb hbs => exact .cons (.one hb) (ih hbs)
  | cons a b ih => exact .cons a ih
omit hn hR in
theorem cOp_call {bx : Bool} {po : Nat} {op : Op} {p : Nat} {k : Nat} {ds : List DOpd} (hc : cOp num P bx po op = some (.call p k ds)) :
    ∃ c g, op = .call c ∧ c.callee = .value (.func g) ∧ num g = some k ∧ cOpds num c.args.toList = some ds := by
  cases op <;> simp only [cOp] at hc
  case call c =>
    split at hc
    · rename_i g as _ h1
      simp only [Option.bind_eq_some_iff, Option.map_eq_some_iff] at hc
      obtain ⟨k, hk1, ds, hds, h⟩ := hc
      injection h with h1' h2' h3'
      subst h2' h3'
      exact ⟨c, _, rfl, h1, hk1, hds⟩
    all_goals (repeat' split at hc) <;> simp [Option.bind_eq_some_iff] at hc
  case makeFunc fn _ _ => cases fn <;> simp only [cOp] at hc <;> (repeat' split at hc) <;> simp [Option.bind_eq_some_iff] at hc
  case makeMap t r => cases r <;> simp only [cOp] at hc <;> (repeat' split at hc) <;> simp at hc
  all_goals first
    | (cases hc; done)
    | (simp [Option.bind_eq_some_iff] at hc; done)
    | skip
  case build => obtain ⟨z, hz, hc⟩ := Option.bind_eq_some_iff.1 hc; (repeat' split at hc) <;> simp [Option.bind_eq_some_iff] at hc
  all_goals (repeat' split at hc) <;> first | (cases hc; done) | (simp [Option.bind_eq_some_iff] at hc; done)
omit hn hR in
theorem cOp_callv {bx : Bool} {po : Nat} {op : Op} {p : Nat} {x : DOpd} {ds : List DOpd} (hc : cOp num P bx po op = some (.callv p x ds)) :
    ∃ c t, op = .call c ∧ c.callee = .value (.tmp t) ∧ x = .tmp t ∧ cOpds num c.args.toList = some ds := by
  cases op <;> simp only [cOp] at hc
  case call c =>
    split at hc
    rotate_left
    · rename_i t as _ h1
      simp only [Option.map_eq_some_iff] at hc
      obtain ⟨ds, hds, h⟩ := hc
      injection h with h1' h2' h3'
      subst h2' h3'
      exact ⟨c, _, rfl, h1, rfl, hds⟩
    all_goals (repeat' split at hc) <;> simp [Option.bind_eq_some_iff] at hc
  case makeFunc fn _ _ => cases fn <;> simp only [cOp] at hc <;> (repeat' split at hc) <;> simp [Option.bind_eq_some_iff] at hc
  case makeMap t r => cases r <;> simp only [cOp] at hc <;> (repeat' split at hc) <;> simp at hc
  all_goals first
    | (cases hc; done)
    | (simp [Option.bind_eq_some_iff] at hc; done)
    | skip
  case build => obtain ⟨z, hz, hc⟩ := Option.bind_eq_some_iff.1 hc; (repeat' split at hc) <;> simp [Option.bind_eq_some_iff] at hc
  all_goals (repeat' split at hc) <;> first | (cases hc; done) | (simp [Option.bind_eq_some_iff] at hc; done)
theorem call_enters (hE : Enters φ P) {bx : Bool} {po : Nat} {d : DOp} {p : Nat} {f : Nat} {args : List AV} (hc : cOp num P bx po o.op = some d) (hk : callOf env d = some (p, f, args)) :
    (∃ fid vals, φ f = some fid ∧ VRs φ X args vals ∧ (execOp act.eval o).run P X.w = .ok (.enter fid vals.toArray) X.w) ∨
    ∃ id as l vals, f = yieldFn ∧ args = .yield id :: as ∧ VC φ X (.yield id) (.func (.yield l) #[] #[]) ∧ VRs φ X as vals ∧ (execOp act.eval o).run P X.w = (Instr.yield l vals.toArray).run P X.w := by
  cases d with
  | call p' k ds =>
    obtain ⟨c, g, hop, h1, h2, h3⟩ := cOp_call hc
    simp only [callOf] at hk
    split at hk
    · rename_i hall
      injection hk with hk
      simp only [Prod.mk.injEq] at hk
      obtain ⟨rfl, rfl, rfl⟩ := hk
      rw [List.all_eq_true] at hall
      have hv := args_ok hn hR h3 hall
      refine .inl ⟨g, _, hn _ _ h2, hv, ?_⟩
      simp only [execOp, hop, resolve, h1, Act.eval, Deferred.ofValue, Sem.run_bind, Sem.run_pure, Result.andThen_ok, invoke]
      simp only [Array.append_empty, Array.empty_append]
      rw [run_callFunc hE (hn _ _ h2)]
      congr 2
      apply Array.toList_inj.1
      simp
    · cases hk
  | callv p' x ds =>
    obtain ⟨c, t, hop, h1, rfl, h3⟩ := cOp_callv hc
    simp only [callOf] at hk
    split at hk
    · rename_i f' captured hx
      change env t = _ at hx
      split at hk
      · rename_i hall
        injection hk with hk
        simp only [Prod.mk.injEq] at hk
        obtain ⟨rfl, rfl, rfl⟩ := hk
        rw [List.all_eq_true] at hall
        have hv := args_ok hn hR h3 hall
        have ht : VT φ X (env t) (act.eval (.tmp t)) := hR.tmps t
        rw [hx] at ht
        have hvc := ht.vc rfl
        generalize hy : act.eval (.tmp t) = y at hvc
        cases hvc with
        | fn hf hcap =>
          rename_i fid vs
          refine .inl ⟨fid, _, hf, VRs.append hn hR hv hcap, ?_⟩
          simp only [execOp, hop, resolve, h1, hy, Deferred.ofValue, Sem.run_bind, Sem.run_pure, Result.andThen_ok, invoke]
          rw [run_callFunc hE hf]
          congr 2
          apply Array.toList_inj.1
          simp
      · cases hk
    · rename_i id hx
      change env t = _ at hx
      split at hk
      · rename_i hall
        injection hk with hk
        simp only [Prod.mk.injEq] at hk
        obtain ⟨rfl, rfl, rfl⟩ := hk
        rw [List.all_eq_true] at hall
        have hv := args_ok hn hR h3 hall
        have ht : VT φ X (env t) (act.eval (.tmp t)) := hR.tmps t
        rw [hx] at ht
        have hvc := ht.vc rfl
        generalize hy : act.eval (.tmp t) = y at hvc
        cases hvc with
        | yield h4 h5 =>
          rename_i l
          refine .inr ⟨id, _, l, _, rfl, rfl, .yield h4 h5, hv, ?_⟩
          simp only [execOp, hop, resolve, h1, hy, Deferred.ofValue, Sem.run_bind, Sem.run_pure, Result.andThen_ok, invoke]
          congr 2
          apply Array.toList_inj.1
          simp
      · cases hk
    · cases hk
  | _ => simp [callOf] at hk
end
end Go.Proofs.YtdldfflfbfpngaaGreatDoor
set_option linter.unusedSimpArgs false
set_option linter.unusedVariables false
namespace Go.Proofs.YtdldfflfbfpngaaGreatDoor
open Go
def DOpd.tmps : DOpd → List Nat
  | .tmp t => [t]
  | .const _ => []
def optTmps : Option DOpd → List Nat
  | none => []
  | some x => x.tmps
def DOp.looks : DOp → List Nat
  | .mv x | .box x | .load _ _ _ x | .nilck x | .eqN _ x | .strOf x | .bytesOf x | .un _ x | .conv _ x | .fieldAddr _ x | .field _ _ _ x | .extract x _ | .len _ x | .clear _ x => x.tmps
  | .pick a b c | .update _ a b c => a.tmps ++ b.tmps ++ c.tmps
  | .alloc _ | .mkmap _ | .stuck => []
  | .build _ ps | .lit _ _ _ ps => ps.flatMap fun p => p.2.2.tmps
  | .store _ x y | .bin _ x y | .eqB _ x y | .eqS _ _ x y | .mkslice _ x y | .indexAddr _ x y | .indexAddrA _ _ x y | .indexA _ _ _ x y | .indexStr x y | .lookup _ _ _ x y | .copy _ x y | .append _ x y => x.tmps ++ y.tmps
  | .mkfn _ xs | .mx xs | .mn xs | .call _ _ xs => xs.flatMap DOpd.tmps
  | .callv _ x xs => x.tmps ++ xs.flatMap DOpd.tmps
  | .slice _ x a b c => x.tmps ++ optTmps a ++ optTmps b ++ optTmps c
  | .sliceStr x a b | .sliceA _ _ x a b => x.tmps ++ optTmps a ++ optTmps b
def DOper.looks (o : DOper) : List Nat := o.op.looks ++ (match o.guard with
  | some (t, _) => [t]
  | none => [])
def apart (x y : DOper) : Bool :=
  (match x.dst with
   | some d => !y.looks.contains d && y.dst != some d
   | none => true) &&
  (match y.dst with
   | some d => !x.looks.contains d
   | none => true)
def callMode : DOp → Nat
  | .call p .. | .callv p .. => p
  | _ => 0
def commOk (x y : DOper) : Bool :=
  apart x y &&
  match x.op.kind, y.op.kind with
  | .pure, _ | _, .pure => true
  | .read, .read | .read, .new | .new, .read | .new, .new => true
  | .call, .read => decide (1 ≤ callMode x.op)
  | .call, .new => decide (2 ≤ callMode x.op)
  | .read, .call => decide (1 ≤ callMode y.op)
  | .read, .eff => (match x.op, y.op with
    | .load true _ _ _, .append _ _ _ => true
    | _, _ => false)
  | .eff, .read => (match x.op, y.op with
    | .append _ _ _, .load true _ _ _ => true
    | _, _ => false)
  | _, _ => false
def Agree (l : List Nat) (env env' : Env) : Prop := ∀ t ∈ l, env t = env' t
theorem Agree.e1 {x : DOpd} {env env' : Env} (h : Agree x.tmps env env') : ev env x = ev env' x := by
  cases x with
  | tmp t => exact h t (by simp [DOpd.tmps])
  | const v => rfl
theorem Agree.left {l r : List Nat} {env env' : Env} (h : Agree (l ++ r) env env') : Agree l env env' := fun t ht => h t (by simp [ht])
theorem Agree.right {l r : List Nat} {env env' : Env} (h : Agree (l ++ r) env env') : Agree r env env' := fun t ht => h t (by simp [ht])
theorem Agree.evs {xs : List DOpd} {env env' : Env} (h : Agree (xs.flatMap DOpd.tmps) env env') : xs.map (ev env) = xs.map (ev env') := by
  apply List.map_congr_left
  intro x hx
  exact Agree.e1 fun t ht => h t (List.mem_flatMap.2 ⟨x, hx, ht⟩)
theorem Agree.opt {x : Option DOpd} {env env' : Env} (h : Agree (optTmps x) env env') (d : Int) : optInt env d x = optInt env' d x := by
  cases x with
  | none => rfl
  | some x => simp only [optInt]; rw [Agree.e1 h]
theorem Agree.fill {env env' : Env} : ∀ {ps : List (Nat × Nat × DOpd)}, Agree (ps.flatMap fun p => p.2.2.tmps) env env' → ∀ cs, fillParts env cs ps = fillParts env' cs ps
  | [], _, cs => rfl
  | (a, b, x) :: r, h, cs => by
    have h1 : Agree x.tmps env env' := fun t ht => h t (by simp [ht])
    have h2 : Agree (r.flatMap fun p => p.2.2.tmps) env env' := fun t ht => h t (by simp only [List.flatMap_cons, List.mem_append]; exact .inr ht)
    simp only [fillParts]
    rw [h1.e1]
    split
    · exact Agree.fill h2 _
    · rfl
theorem pureVal_congr {env env' : Env} {op : DOp} (h : Agree op.looks env env') : pureVal env op = pureVal env' op := by
  cases op <;> simp only [DOp.looks] at h <;> simp only [pureVal]
  case mv x => rw [h.e1]
  case pick a b c => rw [h.left.left.e1, h.left.right.e1, h.right.e1]
  case build z ps => rw [h.fill]
  case lit a b z ps => rw [h.fill]
  case nilck x => rw [h.e1]
  case bin op x y => rw [h.left.e1, h.right.e1]
  case eqB n x y => rw [h.left.e1, h.right.e1]
  case un op x => rw [h.e1]
  case eqS n k x y => rw [h.left.e1, h.right.e1]
  case bytesOf x => rw [h.e1]
  case conv k x => rw [h.e1]
  case mkfn f xs =>
    rw [h.evs, show (xs.all fun x => (ev env x).oneCell) = (xs.map (ev env)).all AV.oneCell by simp [List.all_map, Function.comp_def], show (xs.all fun x => (ev env' x).oneCell) = (xs.map (ev env')).all AV.oneCell by simp [List.all_map, Function.comp_def], h.evs]
  case slice e x a b c => rw [h.left.left.left.e1]; simp only [h.left.left.right.opt, h.left.right.opt, h.right.opt]
  case sliceStr x a b => rw [h.left.left.e1]; simp only [h.left.right.opt, h.right.opt]
  case fieldAddr o x => rw [h.e1]
  case field a b c x => rw [h.e1]
  case indexAddr e x y => rw [h.left.e1, h.right.e1]
  case indexAddrA a e x y => rw [h.left.e1, h.right.e1]
  case indexA a e b x y => rw [h.left.e1, h.right.e1]
  case indexStr x y => rw [h.left.e1, h.right.e1]
  case extract x i => rw [h.e1]
  case mx xs => rw [h.evs]
  case mn xs => rw [h.evs]
theorem readVal_congr {env env' : Env} {h : Heap} {op : DOp} (hg : Agree op.looks env env') : readVal env h op = readVal env' h op := by
  cases op <;> simp only [DOp.looks] at hg <;> simp only [readVal]
  case load b0 a b x => rw [hg.e1]
  case lookup kk z ok x k => rw [hg.left.e1, hg.right.e1]
  case len k x => rw [hg.e1]
  case strOf x => rw [hg.e1]
  case sliceA n e x a b => rw [hg.left.left.e1]; simp only [hg.left.right.opt, hg.right.opt]
theorem newVal_congr {env env' : Env} {op : DOp} (hg : Agree op.looks env env') : newVal env op = newVal env' op := by
  cases op <;> simp only [DOp.looks] at hg <;> simp only [newVal]
  case box x => rw [hg.e1]
  case mkslice z x y => rw [hg.left.e1, hg.right.e1]
theorem effRes_congr {env env' : Env} {h : Heap} {op : DOp} (hg : Agree op.looks env env') : effRes env h op = effRes env' h op := by
  cases op <;> simp only [DOp.looks] at hg <;> simp only [effRes]
  case store n x y => rw [hg.left.e1, hg.right.e1]
  case update kk m k v => rw [hg.left.left.e1, hg.left.right.e1, hg.right.e1]
  case append e x y => rw [hg.left.e1, hg.right.e1]
  case clear z x => rw [hg.e1]
  case eqN b x => rw [hg.e1]
  case copy e x y => rw [hg.left.e1, hg.right.e1]
theorem callOf_congr {env env' : Env} {op : DOp} (hg : Agree op.looks env env') : callOf env op = callOf env' op := by
  cases op <;> simp only [DOp.looks] at hg <;> simp only [callOf]
  case call p f xs =>
    rw [hg.evs, show (xs.all fun x => !(ev env x).isTup) = (xs.map (ev env)).all (fun x => !x.isTup) by simp [List.all_map, Function.comp_def], show (xs.all fun x => !(ev env' x).isTup) = (xs.map (ev env')).all (fun x => !x.isTup) by simp [List.all_map, Function.comp_def], hg.evs]
  case callv p x xs =>
    rw [hg.left.e1, hg.right.evs, show (xs.all fun x => !(ev env x).isTup) = (xs.map (ev env)).all (fun x => !x.isTup) by simp [List.all_map, Function.comp_def], show (xs.all fun x => !(ev env' x).isTup) = (xs.map (ev env')).all (fun x => !x.isTup) by simp [List.all_map, Function.comp_def], hg.right.evs]
inductive Form where
  | bad
  | val (v : AV) (h : Heap)
  | new (o : DObj) (f : Nat → AV)
  | both (f : Bool → AV)
  | call (p : Nat) (f : Nat) (args : List AV)
noncomputable def formOp (env : Env) (h : Heap) (op : DOp) : Form :=
  match op.kind with
  | .call => (match callOf env op with
    | some (p, f, args) => .call p f args
    | none => .bad)
  | _ => (match opRes env h op with
    | none => .bad
    | some (.val v h') => .val v h'
    | some (.new o f) => .new o f
    | some (.both f) => .both f)
noncomputable def form (env : Env) (h : Heap) (o : DOper) : Form :=
  match wanted env o.guard with
  | none => .bad
  | some false => .val (.tup []) h
  | some true => formOp env h o.op
def Form.sem (F : FnSem) (h : Heap) (Q : AV → Heap → Prop) : Form → Prop
  | .bad => False
  | .val v h' => Q v h'
  | .new o f => ∀ id, h.get id = none → Q (f id) (h.set id o)
  | .both f => ∀ b, Q (f b) h
  | .call p f args => wcall F p f args h Q
theorem wstp_form {F : FnSem} {o : DOper} {Q : Env → Heap → Prop} {env : Env} {h : Heap} : wstp F o Q env h ↔ (form env h o).sem F h (fun v h' => Q (putDst env o.dst v) h') := by
  unfold wstp form
  cases wanted env o.guard with
  | none => rfl
  | some b =>
    cases b with
    | false => rfl
    | true =>
      simp only [formOp, wop]
      by_cases hk : o.op.kind = .call
      · rw [if_pos hk, hk]
        cases callOf env o.op with
        | none => rfl
        | some x => rfl
      · rw [if_neg hk]
        have : (match o.op.kind with
          | .call => (match callOf env o.op with
            | some (p, f, args) => Form.call p f args
            | none => .bad)
          | _ => (match opRes env h o.op with
            | none => .bad
            | some (.val v h') => .val v h'
            | some (.new o f) => .new o f
            | some (.both f) => .both f)) = (match opRes env h o.op with
            | none => .bad
            | some (.val v h') => .val v h'
            | some (.new o f) => .new o f
            | some (.both f) => .both f) := by
          cases hk2 : o.op.kind <;> first | rfl | exact absurd hk2 hk
        rw [this]
        cases opRes env h o.op with
        | none => rfl
        | some r => cases r <;> rfl
theorem opRes_congr {env env' : Env} {h : Heap} {op : DOp} (hg : Agree op.looks env env') : opRes env h op = opRes env' h op := by
  unfold opRes
  rw [pureVal_congr hg, readVal_congr hg, newVal_congr hg, effRes_congr hg]
theorem wanted_congr {env env' : Env} {g : Option (Nat × Bool)} (hg : Agree (match g with
  | some (t, _) => [t]
  | none => []) env env') : wanted env g = wanted env' g := by
  cases g with
  | none => rfl
  | some g => simp only [wanted]; rw [hg g.1 (by simp)]
theorem form_congr {env env' : Env} {h : Heap} {o : DOper} (hg : Agree o.looks env env') : form env h o = form env' h o := by
  unfold form formOp
  rw [wanted_congr hg.right, opRes_congr hg.left, callOf_congr hg.left]
theorem agree_put {l : List Nat} {env : Env} {d : Option Nat} {v : AV} (h : ∀ t, d = some t → t ∉ l) : Agree l (putDst env d v) env := by
  intro t ht
  cases d with
  | none => rfl
  | some d =>
    have : t ≠ d := fun e => h d rfl (e ▸ ht)
    simp [putDst, Env.put, this]
theorem putDst_comm {env : Env} {d e : Option Nat} {u v : AV} (h : ∀ t, d = some t → e ≠ some t) : putDst (putDst env d u) e v = putDst (putDst env e v) d u := by
  cases d with
  | none => rfl
  | some d =>
    cases e with
    | none => rfl
    | some e =>
      have hne : e ≠ d := fun he => h d rfl (by rw [he])
      funext t
      simp only [putDst, Env.put]
      by_cases h1 : t = e
      · subst h1; simp [hne]
      · simp [h1]
theorem apart_spec {x y : DOper} (h : apart x y = true) : (∀ d, x.dst = some d → d ∉ y.looks) ∧ (∀ d, x.dst = some d → y.dst ≠ some d) ∧ (∀ d, y.dst = some d → d ∉ x.looks) := by
  refine ⟨fun d hd => ?_, fun d hd => ?_, fun d hd => ?_⟩ <;> simp [apart, hd] at h
  · exact h.1.1
  · exact h.1.2
  · exact h.2
theorem form_kind (env : Env) (h : Heap) (o : DOper) : form env h o = .bad ∨ form env h o = .val (.tup []) h ∧ (∀ h', form env h' o = .val (.tup []) h') ∨ (∀ h', form env h' o = formOp env h' o.op) := by
  unfold form
  cases wanted env o.guard with
  | none => exact .inl rfl
  | some b => cases b with
    | false => exact .inr (.inl ⟨rfl, fun _ => rfl⟩)
    | true => exact .inr (.inr fun _ => rfl)
theorem formOp_pure {env : Env} {op : DOp} (hk : op.kind = .pure) (h : Heap) : formOp env h op = (match pureVal env op with
    | some v => .val v h
    | none => .bad) := by
  simp only [formOp, hk, opRes]
  cases pureVal env op <;> rfl
theorem formOp_read {env : Env} {op : DOp} (hk : op.kind = .read) (h : Heap) : formOp env h op = (match readVal env h op with
    | some v => .val v h
    | none => .bad) := by
  simp only [formOp, hk, opRes]
  cases readVal env h op <;> rfl
theorem formOp_new {env : Env} {op : DOp} (hk : op.kind = .new) (h : Heap) : formOp env h op = (match newVal env op with
    | some x => .new x.1 x.2
    | none => .bad) := by
  simp only [formOp, hk, opRes]
  cases newVal env op <;> rfl
theorem formOp_call {env : Env} {op : DOp} (hk : op.kind = .call) (h : Heap) : formOp env h op = (match callOf env op with
    | some (p, f, args) => .call p f args
    | none => .bad) := by
  simp only [formOp, hk]
def Steady (env : Env) (o : DOper) : Prop := (∀ h, form env h o = .bad) ∨ ∃ v, ∀ h, form env h o = .val v h
theorem steady_pure {env : Env} {o : DOper} (hk : o.op.kind = .pure) : Steady env o := by
  rcases form_kind env Heap.empty o with h | ⟨_, h⟩ | h
  · unfold form at h
    cases hw : wanted env o.guard with
    | none => exact .inl fun h' => by simp [form, hw]
    | some b => cases b with
      | false => exact .inr ⟨(.tup []), fun h' => by simp [form, hw]⟩
      | true =>
        cases hv : pureVal env o.op with
        | none => exact .inl fun h' => by simp [form, hw, formOp_pure hk, hv]
        | some v => exact .inr ⟨v, fun h' => by simp [form, hw, formOp_pure hk, hv]⟩
  · exact .inr ⟨_, h⟩
  · cases hv : pureVal env o.op with
    | none => exact .inl fun h' => by rw [h, formOp_pure hk, hv]
    | some v => exact .inr ⟨v, fun h' => by rw [h, formOp_pure hk, hv]⟩
theorem srcCells_congr {h h' : Heap} {esz : Nat} {a : AV} (hg : ∀ i o, h.get i = some o → h'.get i = some o) {x : Nat × List AV} (hx : srcCells h esz a = some x) : srcCells h' esz a = some x := by
  unfold srcCells at hx ⊢
  split at hx
  · exact hx
  · split at hx
    · rename_i hcs; simp only [hg _ _ hcs]; exact hx
    · cases hx
  · exact hx
  · cases hx
theorem readVal_set {env : Env} {h : Heap} {op : DOp} {id : Nat} {ob : DObj} (hid : h.get id = none) {v : AV} (hv : readVal env h op = some v) : readVal env (h.set id ob) op = some v := by
  have hg : ∀ i o, h.get i = some o → (h.set id ob).get i = some o := fun i o hi => by
    have : i ≠ id := fun e => by rw [e, hid] at hi; cases hi
    simp [Heap.set, this, hi]
  cases op <;> simp only [readVal] at hv ⊢ <;> try (cases hv; done)
  case load b0 n ag x =>
    split at hv
    · rename_i i g off hx
      split at hv
      · rename_i g' cs hcs; rw [hg _ _ hcs]; exact hv
      · cases hv
    · exact hv
    · cases hv
  case lookup kk z ok x k =>
    split at hv
    · rename_i hk
      rw [if_pos hk]
      split at hv
      · rename_i i hx
        split at hv
        · rename_i es hes; rw [hg _ _ hes]; exact hv
        · cases hv
      · exact hv
      · cases hv
    · cases hv
  case sliceA n e x a b =>
    split at hv
    · rename_i i g hx
      split at hv
      · rename_i g' cs hcs; simp only [hg _ _ hcs]; exact hv
      · cases hv
    · cases hv
  case strOf x =>
    split at hv
    · cases hv
    · rename_i hs
      rw [if_neg hs]
      simp only [Option.bind_eq_some_iff] at hv ⊢
      obtain ⟨y, hy, hv⟩ := hv
      exact ⟨y, srcCells_congr hg hy, hv⟩
  case len k x =>
    split at hv
    · exact hv
    · exact hv
    · exact hv
    · exact hv
    · rename_i i _ hx
      split at hv
      · rename_i es hes; simp only [hg _ _ hes]; exact hv
      · cases hv
    · cases hv
theorem readVal_unset {env : Env} {h : Heap} {op : DOp} {ob : DObj} {v : Nat → AV} (hv : ∀ id, h.get id = none → readVal env (h.set id ob) op = some (v id)) : ∃ v', readVal env h op = some v' := by
  have hg : ∀ i, ∃ id, h.get id = none ∧ (h.set id ob).get i = h.get i := fun i => by
    obtain ⟨id, h1, h2⟩ := h.fresh_ne i
    exact ⟨id, h2, by simp [Heap.set, Ne.symm h1]⟩
  obtain ⟨id0, hid0⟩ := h.fresh
  have h0 := hv id0 hid0
  cases op <;> simp only [readVal] at hv h0 ⊢ <;> try (cases h0; done)
  case load b0 n ag x =>
    split at h0
    · rename_i i g off hx
      obtain ⟨id, h1, h2⟩ := hg i
      have h3 := hv id h1
      simp only [hx, h2] at h3
      exact ⟨_, h3⟩
    · exact ⟨_, h0⟩
    · cases h0
  case lookup kk z ok x k =>
    split at h0
    · rename_i hk
      rw [if_pos hk]
      split at h0
      · rename_i i hx
        obtain ⟨id, h1, h2⟩ := hg i
        have h3 := hv id h1
        simp only [if_pos hk, hx, h2] at h3
        exact ⟨_, h3⟩
      · exact ⟨_, h0⟩
      · cases h0
    · cases h0
  case sliceA n e x a b =>
    split at h0
    · rename_i i g hx
      obtain ⟨id, h1, h2⟩ := hg i
      have h3 := hv id h1
      simp only [hx, h2] at h3
      exact ⟨_, h3⟩
    · cases h0
  case strOf x =>
    have hs : ∃ id, h.get id = none ∧ srcCells (h.set id ob) 1 (ev env x) = srcCells h 1 (ev env x) := by
      cases hx : ev env x with
      | own i g e off len lim =>
        obtain ⟨id, h1, h2⟩ := hg i
        exact ⟨id, h1, by simp only [srcCells, h2]⟩
      | _ => exact ⟨id0, hid0, rfl⟩
    obtain ⟨id, h1, h2⟩ := hs
    have h3 := hv id h1
    rw [h2] at h3
    exact ⟨_, h3⟩
  case len k x =>
    split at h0
    · exact ⟨_, h0⟩
    · exact ⟨_, h0⟩
    · exact ⟨_, h0⟩
    · exact ⟨_, h0⟩
    · rename_i i hx
      obtain ⟨id, h1, h2⟩ := hg i
      have h3 := hv id h1
      simp only [hx, h2] at h3
      exact ⟨_, h3⟩
    · cases h0
theorem Heap.set_comm {h : Heap} {i j : Nat} (hne : i ≠ j) (a b : DObj) : (h.set i a).set j b = (h.set j b).set i a := by
  have : ∀ x y : Heap, x.get = y.get → x = y := fun x y e => by cases x; cases y; cases e; rfl
  apply this
  funext k
  simp only [Heap.set]
  by_cases h1 : k = i
  · subst h1; simp [hne]
  · simp [h1]
theorem form_sem_feas {F : FnSem} (hF : FFeas F) {h : Heap} {Q : AV → Heap → Prop} {f : Form} (hs : f.sem F h Q) : ∃ v h', Q v h' := by
  cases f with
  | bad => exact hs.elim
  | val v h' => exact ⟨_, _, hs⟩
  | new o f => obtain ⟨id, hid⟩ := h.fresh; exact ⟨_, _, hs id hid⟩
  | both f => exact ⟨_, _, hs true⟩
  | call p f args =>
    rcases hs with ⟨_, hs⟩ | ⟨_, hs⟩ | ⟨_, hs⟩ | ⟨_, _, _, _, _, _, hs⟩
    · exact hF _ _ _ _ hs
    · obtain ⟨v, h', _, hq⟩ := hF _ _ _ _ hs
      exact ⟨v, _, hq⟩
    · obtain ⟨v, h', _, hq⟩ := hF _ _ _ _ hs
      exact ⟨v, _, hq⟩
    · obtain ⟨v, h', _, hq⟩ := hF _ _ _ _ hs
      exact ⟨v, _, hq⟩
theorem form_sem_mono {F : FnSem} (hm : FMono F) {h : Heap} {Q Q' : AV → Heap → Prop} (hq : ∀ v h, Q v h → Q' v h) {f : Form} (hs : f.sem F h Q) : f.sem F h Q' := by
  cases f with
  | bad => exact hs
  | val v h' => exact hq _ _ hs
  | new o f => exact fun id hid => hq _ _ (hs id hid)
  | both f => exact fun b => hq _ _ (hs b)
  | call p f args => exact wcall_mono (fun _ _ _ _ h => h) hm hq hs
theorem swap_steady_right {F : FnSem} (hF : FFeas F) (hm : FMono F) {x y : DOper} {Q : Env → Heap → Prop} {env : Env} {h : Heap} (ha : apart x y = true) (hy : Steady env y) (hs : wstp F x (wstp F y Q) env h) : wstp F y (wstp F x Q) env h := by
  obtain ⟨a1, a2, a3⟩ := apart_spec ha
  rw [wstp_form] at hs
  have hyv : ∀ v h', form (putDst env x.dst v) h' y = form env h' y := fun v h' => form_congr (agree_put a1)
  rcases hy with hy | ⟨u, hy⟩
  · obtain ⟨v, h', hh⟩ := form_sem_feas hF hs
    rw [wstp_form, hyv, hy] at hh
    exact hh.elim
  · rw [wstp_form, hy]
    show wstp F x Q (putDst env y.dst u) h
    rw [wstp_form, form_congr (agree_put a3)]
    refine form_sem_mono hm (fun v h' hh => ?_) hs
    rw [wstp_form, hyv, hy] at hh
    have : Q (putDst (putDst env x.dst v) y.dst u) h' := hh
    rwa [putDst_comm a2] at this
theorem swap_steady_left {F : FnSem} (hm : FMono F) {x y : DOper} {Q : Env → Heap → Prop} {env : Env} {h : Heap} (ha : apart x y = true) (hx : Steady env x) (hs : wstp F x (wstp F y Q) env h) : wstp F y (wstp F x Q) env h := by
  obtain ⟨a1, a2, a3⟩ := apart_spec ha
  rcases hx with hx | ⟨u, hx⟩
  · rw [wstp_form, hx] at hs
    exact hs.elim
  · rw [wstp_form, hx] at hs
    have hs : wstp F y Q (putDst env x.dst u) h := hs
    rw [wstp_form, form_congr (agree_put a1)] at hs
    rw [wstp_form]
    refine form_sem_mono hm (fun v h' hh => ?_) hs
    rw [wstp_form, form_congr (agree_put a3), hx]
    show Q (putDst (putDst env y.dst v) x.dst u) h'
    rw [← putDst_comm a2]
    exact hh
theorem form_read_cases {env : Env} {o : DOper} (hk : o.op.kind = .read) : Steady env o ∨ ∀ h, form env h o = (match readVal env h o.op with
    | some v => .val v h
    | none => .bad) := by
  rcases form_kind env Heap.empty o with h | ⟨_, h⟩ | h
  · unfold form at h
    cases hw : wanted env o.guard with
    | none => exact .inl (.inl fun h' => by simp [form, hw])
    | some b => cases b with
      | false => exact .inl (.inr ⟨(.tup []), fun h' => by simp [form, hw]⟩)
      | true => exact .inr fun h' => by simp only [form, hw]; exact formOp_read hk h'
  · exact .inl (.inr ⟨_, h⟩)
  · exact .inr fun h' => by rw [h, formOp_read hk]
theorem form_new_cases {env : Env} {o : DOper} (hk : o.op.kind = .new) : Steady env o ∨ ∃ ob f, ∀ h, form env h o = .new ob f := by
  rcases form_kind env Heap.empty o with h | ⟨_, h⟩ | h
  · unfold form at h
    cases hw : wanted env o.guard with
    | none => exact .inl (.inl fun h' => by simp [form, hw])
    | some b => cases b with
      | false => exact .inl (.inr ⟨(.tup []), fun h' => by simp [form, hw]⟩)
      | true =>
        cases hv : newVal env o.op with
        | none => exact .inl (.inl fun h' => by simp only [form, hw, formOp_new hk, hv])
        | some x => exact .inr ⟨x.1, x.2, fun h' => by simp only [form, hw, formOp_new hk, hv]⟩
  · exact .inl (.inr ⟨_, h⟩)
  · cases hv : newVal env o.op with
    | none => exact .inl (.inl fun h' => by rw [h, formOp_new hk, hv])
    | some x => exact .inr ⟨x.1, x.2, fun h' => by rw [h, formOp_new hk, hv]⟩
theorem form_call_cases {env : Env} {o : DOper} (hk : o.op.kind = .call) : Steady env o ∨ ∃ f args, ∀ h, form env h o = .call (callMode o.op) f args := by
  have hcall : ∀ p f args, callOf env o.op = some (p, f, args) → p = callMode o.op := by
    intro p f args hc
    cases ho : o.op <;> rw [ho] at hc <;> simp only [callOf] at hc <;> try (cases hc; done)
    · split at hc
      · injection hc with hc; simp only [Prod.mk.injEq] at hc; rw [← hc.1]; rfl
      · cases hc
    · split at hc
      · split at hc
        · injection hc with hc; simp only [Prod.mk.injEq] at hc; rw [← hc.1]; rfl
        · cases hc
      · split at hc
        · injection hc with hc; simp only [Prod.mk.injEq] at hc; rw [← hc.1]; rfl
        · cases hc
      · cases hc
  rcases form_kind env Heap.empty o with h | ⟨_, h⟩ | h
  · unfold form at h
    cases hw : wanted env o.guard with
    | none => exact .inl (.inl fun h' => by simp [form, hw])
    | some b => cases b with
      | false => exact .inl (.inr ⟨(.tup []), fun h' => by simp [form, hw]⟩)
      | true =>
        cases hv : callOf env o.op with
        | none => exact .inl (.inl fun h' => by simp only [form, hw, formOp_call hk, hv])
        | some x =>
          obtain ⟨p, f, args⟩ := x
          obtain rfl := hcall _ _ _ hv
          exact .inr ⟨f, args, fun h' => by simp only [form, hw, formOp_call hk, hv]⟩
  · exact .inl (.inr ⟨_, h⟩)
  · cases hv : callOf env o.op with
    | none => exact .inl (.inl fun h' => by rw [h, formOp_call hk, hv])
    | some x =>
      obtain ⟨p, f, args⟩ := x
      obtain rfl := hcall _ _ _ hv
      exact .inr ⟨f, args, fun h' => by rw [h, formOp_call hk, hv]⟩
def quiet (F : FnSem) (f : Nat) (args : List AV) (h : Heap) (Q : AV → Prop) : Prop :=
  F f args h (fun v h' => h.Ext h' ∧ Q v) ∨ (AV.frozenL args = true ∧ F f args Heap.empty (fun v _ => v.frozen = true ∧ Q v))
theorem quiet_mono {F : FnSem} (hm : FMono F) {f args h} {Q Q' : AV → Prop} (hq : ∀ v, Q v → Q' v) (hw : quiet F f args h Q) : quiet F f args h Q' :=
  hw.imp (hm _ _ _ _ _ fun v h ⟨a, b⟩ => ⟨a, hq _ b⟩) fun ⟨a, b⟩ => ⟨a, hm _ _ _ _ _ (fun v h ⟨a, b⟩ => ⟨a, hq _ b⟩) b⟩
theorem quiet_feas {F : FnSem} (hF : FFeas F) {f args h} {Q : AV → Prop} (hw : quiet F f args h Q) : ∃ v, Q v := by
  rcases hw with hw | ⟨_, hw⟩
  · obtain ⟨v, _, _, h⟩ := hF _ _ _ _ hw; exact ⟨v, h⟩
  · obtain ⟨v, _, _, h⟩ := hF _ _ _ _ hw; exact ⟨v, h⟩
theorem sem_quiet {F : FnSem} {m f : Nat} (hm : m = 1 ∨ 2 ≤ m) {args : List AV} {h : Heap} {Q : AV → Heap → Prop} :
    (Form.call m f args).sem F h Q ↔ (if m = 1 then quiet F f args h (fun v => Q v h) else (AV.frozenL args = true ∧ F f args Heap.empty (fun v _ => v.frozen = true ∧ Q v h))) := by
  simp only [Form.sem, wcall]
  rcases hm with rfl | hm
  · simp [quiet]
  · have h1 : m ≠ 0 := by omega
    have h2 : ¬ m ≤ 1 := by omega
    have h3 : m ≠ 1 := by omega
    simp [h1, h2, h3]
theorem swap {F : FnSem} (hF : FFeas F) (hm : FMono F) {x y : DOper} {Q : Env → Heap → Prop} {env : Env} {h : Heap} (hc : commOk x y = true) (hs : wstp F x (wstp F y Q) env h) : wstp F y (wstp F x Q) env h := by
  unfold commOk at hc
  rw [Bool.and_eq_true] at hc
  obtain ⟨ha, hc⟩ := hc
  obtain ⟨a1, a2, a3⟩ := apart_spec ha
  by_cases hx : Steady env x
  · exact swap_steady_left hm ha hx hs
  by_cases hy : Steady env y
  · exact swap_steady_right hF hm ha hy hs
  have hyv : ∀ v h', form (putDst env x.dst v) h' y = form env h' y := fun v h' => form_congr (agree_put a1)
  have hxv : ∀ v h', form (putDst env y.dst v) h' x = form env h' x := fun v h' => form_congr (agree_put a3)
  have hpx : x.op.kind ≠ .pure := fun h => hx (steady_pure h)
  have hpy : y.op.kind ≠ .pure := fun h => hy (steady_pure h)
  rw [wstp_form] at hs ⊢
  simp only [wstp_form, hyv] at hs
  simp only [wstp_form, hxv]
  cases hkx : x.op.kind <;> cases hky : y.op.kind <;> rw [hkx, hky] at hc <;> simp only [Bool.false_eq_true] at hc <;> try (first | exact absurd hkx hpx | exact absurd hky hpy)
  · -- read, read
    have fx := (form_read_cases (env := env) hkx).resolve_left hx
    have fy := (form_read_cases (env := env) hky).resolve_left hy
    rw [fx] at hs
    rw [fy]
    cases hvx : readVal env h x.op with
    | none => rw [hvx] at hs; exact hs.elim
    | some u =>
      rw [hvx] at hs
      have hs : (form env h y).sem F h _ := hs
      rw [fy] at hs
      cases hvy : readVal env h y.op with
      | none => rw [hvy] at hs; exact hs.elim
      | some v =>
        rw [hvy] at hs
        show (form env h x).sem F h _
        rw [fx, hvx]
        show Q _ h
        rw [← putDst_comm a2]
        exact hs
  · -- read, new
    have fx := (form_read_cases (env := env) hkx).resolve_left hx
    obtain ⟨ob, f, fy⟩ := (form_new_cases (env := env) hky).resolve_left hy
    rw [fx] at hs
    rw [fy]
    cases hvx : readVal env h x.op with
    | none => rw [hvx] at hs; exact hs.elim
    | some u =>
      rw [hvx] at hs
      have hs : (form env h y).sem F h _ := hs
      rw [fy] at hs
      intro id hid
      rw [fx, readVal_set hid hvx]
      show Q _ _
      rw [← putDst_comm a2]
      exact hs id hid
  · -- read, eff
    have fx := (form_read_cases (env := env) hkx).resolve_left hx
    split at hc
    · rename_i n ag lx e xx yy hox hoy
      rw [fx] at hs
      cases hvx : readVal env h x.op with
      | none => rw [hvx] at hs; exact hs.elim
      | some u =>
        rw [hvx] at hs
        have hs : (form env h y).sem F h _ := hs
        have hyf : ∀ h', form env h' y = formOp env h' y.op := by
          rcases form_kind env Heap.empty y with h0 | ⟨_, h0⟩ | h0
          · unfold form at h0
            cases hw : wanted env y.guard with
            | none => exact absurd (Or.inl fun h' => by simp [form, hw]) hy
            | some b => cases b with
              | false => exact absurd (Or.inr ⟨(.tup []), fun h' => by simp [form, hw]⟩) hy
              | true => exact fun h' => by simp [form, hw]
          · exact absurd (Or.inr ⟨_, h0⟩) hy
          · exact h0
        rw [hyf] at hs ⊢
        simp only [formOp, hky, opRes] at hs ⊢
        -- what the load reads is no row
        have key : ∀ id g o, h.get id = some (.cells g o) → 1 ≤ g → ∀ ob, readVal env (h.set id ob) x.op = some u := by
          intro id g o hid hg ob
          rw [hox] at hvx ⊢
          simp only [readVal] at hvx ⊢
          split at hvx
          · rename_i i g2 off hx2
            split at hvx
            · rename_i g3 cs3 hcs3
              split at hvx
              · rename_i hcond
                have hne : i ≠ id := by
                  rintro rfl
                  rw [hcs3] at hid
                  injection hid with hid
                  injection hid with e1 e2
                  have : g2 = 0 := by simpa using hcond.2.1
                  have := hcond.1
                  omega
                simp only [Heap.set, if_neg hne, hcs3]
                rw [if_pos hcond]
                exact hvx
              · cases hvx
            · cases hvx
          · exact hvx
          · cases hvx
        cases hr : effRes env h y.op with
        | none => rw [hr] at hs; exact hs.elim
        | some r =>
          rw [hr] at hs
          rw [hoy] at hr
          simp only [effRes, Option.bind_eq_some_iff] at hr
          obtain ⟨⟨m, new⟩, _, hr⟩ := hr
          split at hr
          · split at hr
            · split at hr
              · injection hr with hr
                subst hr
                show (form env h x).sem F h _
                rw [fx, hvx]
                show Q _ _
                rw [← putDst_comm a2]
                exact hs
              · split at hr
                · injection hr with hr
                  subst hr
                  intro id hid
                  rw [fx, readVal_set hid hvx]
                  show Q _ _
                  rw [← putDst_comm a2]
                  exact hs id hid
                · cases hr
            · cases hr
          · rename_i id g e2 off len lim _
            split at hr
            · rename_i g' cs hcs
              split at hr
              · rename_i hcond
                split at hr
                · injection hr with hr
                  subst hr
                  show (form env _ x).sem F _ _
                  rw [fx, key id g' cs hcs (by have := hcond.1; have := hcond.2.1; omega)]
                  show Q _ _
                  rw [← putDst_comm a2]
                  exact hs
                · split at hr
                  · injection hr with hr
                    subst hr
                    show (form env h x).sem F h _
                    rw [fx, hvx]
                    show Q _ _
                    rw [← putDst_comm a2]
                    exact hs
                  · split at hr
                    · injection hr with hr
                      subst hr
                      intro id' hid'
                      rw [fx, readVal_set hid' hvx]
                      show Q _ _
                      rw [← putDst_comm a2]
                      exact hs id' hid'
                    · cases hr
              · cases hr
            · cases hr
          · cases hr
    · cases hc
  · -- read, call
    have hmode : callMode y.op = 1 ∨ 2 ≤ callMode y.op := by have := of_decide_eq_true hc; omega
    have fx := (form_read_cases (env := env) hkx).resolve_left hx
    obtain ⟨f, args, fy⟩ := (form_call_cases (env := env) hky).resolve_left hy
    rw [fx] at hs
    cases hvx : readVal env h x.op with
    | none => rw [hvx] at hs; exact hs.elim
    | some u =>
      rw [hvx] at hs
      have hs : (form env h y).sem F h _ := hs
      rw [fy, sem_quiet hmode] at hs ⊢
      have hstep : ∀ v, Q (putDst (putDst env x.dst u) y.dst v) h → (form env h x).sem F h (fun v_1 h' => Q (putDst (putDst env y.dst v) x.dst v_1) h') := fun v hv => by
        rw [fx, hvx]
        show Q _ _
        rw [← putDst_comm a2]
        exact hv
      split at hs
      · rename_i hm1
        rw [if_pos hm1]
        exact quiet_mono hm hstep hs
      · rename_i hm1
        rw [if_neg hm1]
        exact ⟨hs.1, hm _ _ _ _ _ (fun v _ hv => ⟨hv.1, hstep v hv.2⟩) hs.2⟩
  · -- new, read
    obtain ⟨ob, f, fx⟩ := (form_new_cases (env := env) hkx).resolve_left hx
    have fy := (form_read_cases (env := env) hky).resolve_left hy
    rw [fx] at hs
    have hs : ∀ id, h.get id = none → (form env (h.set id ob) y).sem F (h.set id ob) (fun v h' => Q (putDst (putDst env x.dst (f id)) y.dst v) h') := hs
    have hv : ∀ id, h.get id = none → ∃ v, readVal env (h.set id ob) y.op = some v := fun id hid => by
      have := hs id hid
      rw [fy] at this
      cases hvy : readVal env (h.set id ob) y.op with
      | none => rw [hvy] at this; exact this.elim
      | some v => exact ⟨v, rfl⟩
    obtain ⟨v0, hv0⟩ := readVal_unset (env := env) (op := y.op) (ob := ob) (v := fun id => (readVal env (h.set id ob) y.op).getD .undef) (fun id hid => by obtain ⟨v, e⟩ := hv id hid; simp [e])
    rw [fy, hv0]
    show (form env h x).sem F h _
    rw [fx]
    intro id hid
    have := hs id hid
    rw [fy, readVal_set hid hv0] at this
    rw [← putDst_comm a2]
    exact this
  · -- new, new
    obtain ⟨ob, f, fx⟩ := (form_new_cases (env := env) hkx).resolve_left hx
    obtain ⟨ob2, f2, fy⟩ := (form_new_cases (env := env) hky).resolve_left hy
    rw [fx] at hs
    have hs : ∀ id, h.get id = none → (form env (h.set id ob) y).sem F (h.set id ob) (fun v h' => Q (putDst (putDst env x.dst (f id)) y.dst v) h') := hs
    rw [fy]
    intro id hid
    rw [fx]
    intro id2 hid2
    have hne : id2 ≠ id := fun e => by subst e; simp [Heap.set] at hid2
    have hid2' : h.get id2 = none := by simpa [Heap.set, hne] using hid2
    have := hs id2 hid2'
    rw [fy] at this
    have := this id (by simp [Heap.set, Ne.symm hne, hid])
    rw [Heap.set_comm (Ne.symm hne), ← putDst_comm a2]
    exact this
  · -- eff, read
    have fy := (form_read_cases (env := env) hky).resolve_left hy
    split at hc
    · rename_i e xx yy n ag lx hox hoy
      have hxf : ∀ h', form env h' x = formOp env h' x.op := by
        rcases form_kind env Heap.empty x with h0 | ⟨_, h0⟩ | h0
        · unfold form at h0
          cases hw : wanted env x.guard with
          | none => exact absurd (Or.inl fun h' => by simp [form, hw]) hx
          | some b => cases b with
            | false => exact absurd (Or.inr ⟨(.tup []), fun h' => by simp [form, hw]⟩) hx
            | true => exact fun h' => by simp [form, hw]
        · exact absurd (Or.inr ⟨_, h0⟩) hx
        · exact h0
      -- what the load reads is no row
      have key : ∀ id g g2 o o2 v, h.get id = some (.cells g o) → 1 ≤ g2 → readVal env (h.set id (.cells g2 o2)) y.op = some v → readVal env h y.op = some v := by
        intro id g g2 o o2 v hid hg hvy
        rw [hoy] at hvy ⊢
        simp only [readVal] at hvy ⊢
        split at hvy
        · rename_i i g3 off hx2
          by_cases hne : i = id
          · subst hne
            simp only [Heap.set, if_true] at hvy
            split at hvy
            · rename_i hcond
              have h1 : g3 = 0 := by simpa using hcond.2.1
              have h2 := hcond.1
              omega
            · cases hvy
          · simp only [Heap.set, if_neg hne] at hvy
            exact hvy
        · exact hvy
        · cases hvy
      have hs2 : (form env h x).sem F h (fun u h' => (form env h' y).sem F h' (fun v h'' => Q (putDst (putDst env x.dst u) y.dst v) h'')) := hs
      have fin1 : ∀ u h', form env h x = .val u h' → (∀ v, readVal env h' y.op = some v → readVal env h y.op = some v) → (form env h y).sem F h (fun v h1 => (form env h1 x).sem F h1 (fun v_1 h' => Q (putDst (putDst env y.dst v) x.dst v_1) h')) := by
        intro u h' he hk
        rw [he] at hs2
        have hs2 : (form env h' y).sem F h' _ := hs2
        rw [fy] at hs2
        cases hvy : readVal env h' y.op with
        | none => rw [hvy] at hs2; exact hs2.elim
        | some v =>
          rw [hvy] at hs2
          rw [fy, hk v hvy]
          show (form env h x).sem F h _
          rw [he]
          show Q _ _
          rw [← putDst_comm a2]
          exact hs2
      have fin2 : ∀ ob f, form env h x = .new ob f → (form env h y).sem F h (fun v h1 => (form env h1 x).sem F h1 (fun v_1 h' => Q (putDst (putDst env y.dst v) x.dst v_1) h')) := by
        intro ob f he
        rw [he] at hs2
        have hs2 : ∀ id, h.get id = none → (form env (h.set id ob) y).sem F (h.set id ob) (fun v h' => Q (putDst (putDst env x.dst (f id)) y.dst v) h') := hs2
        have hv : ∀ id, h.get id = none → ∃ v, readVal env (h.set id ob) y.op = some v := fun id hid => by
          have := hs2 id hid
          rw [fy] at this
          cases hvy : readVal env (h.set id ob) y.op with
          | none => rw [hvy] at this; exact this.elim
          | some v => exact ⟨v, rfl⟩
        obtain ⟨v0, hv0⟩ := readVal_unset (env := env) (op := y.op) (ob := ob) (v := fun id => (readVal env (h.set id ob) y.op).getD .undef) (fun id hid => by obtain ⟨v, e⟩ := hv id hid; simp [e])
        rw [fy, hv0]
        show (form env h x).sem F h _
        rw [he]
        intro id hid
        have := hs2 id hid
        rw [fy, readVal_set hid hv0] at this
        rw [← putDst_comm a2]
        exact this
      cases hr : effRes env h x.op with
      | none =>
        rw [hxf] at hs2
        simp only [formOp, hkx, opRes, hr] at hs2
        exact hs2.elim
      | some r =>
        have he : form env h x = (match r with
          | .val v h' => Form.val v h'
          | .new o f => .new o f
          | .both f => .both f) := by
          rw [hxf]
          simp only [formOp, hkx, opRes, hr]
          cases r <;> rfl
        rw [hox] at hr
        simp only [effRes, Option.bind_eq_some_iff] at hr
        obtain ⟨⟨m, new⟩, _, hr⟩ := hr
        split at hr
        · split at hr
          · split at hr
            · injection hr with hr
              subst hr
              exact fin1 _ _ he fun _ e => e
            · split at hr
              · injection hr with hr
                subst hr
                exact fin2 _ _ he
              · cases hr
          · cases hr
        · split at hr
          · rename_i g' cs hcs
            split at hr
            · rename_i hcond
              split at hr
              · injection hr with hr
                subst hr
                exact fin1 _ _ he fun v e => key _ _ _ _ _ v hcs (by omega) e
              · split at hr
                · injection hr with hr
                  subst hr
                  exact fin1 _ _ he fun _ e => e
                · split at hr
                  · injection hr with hr
                    subst hr
                    exact fin2 _ _ he
                  · cases hr
            · cases hr
          · cases hr
        · cases hr
    · cases hc
  · -- call, read
    have hmode : callMode x.op = 1 ∨ 2 ≤ callMode x.op := by have := of_decide_eq_true hc; omega
    obtain ⟨g, args, fx⟩ := (form_call_cases (env := env) hkx).resolve_left hx
    have fy := (form_read_cases (env := env) hky).resolve_left hy
    rw [fx, sem_quiet hmode] at hs
    simp only [fy] at hs
    rw [fy]
    cases hvy : readVal env h y.op with
    | none =>
      rw [hvy] at hs
      split at hs
      · obtain ⟨v, hh⟩ := quiet_feas hF hs
        exact hh.elim
      · obtain ⟨v, _, _, hh⟩ := hF _ _ _ _ hs.2
        exact hh.elim
    | some u =>
      rw [hvy] at hs
      show (form env h x).sem F h _
      rw [fx, sem_quiet hmode]
      have hstep : ∀ v, Q (putDst (putDst env x.dst v) y.dst u) h → Q (putDst (putDst env y.dst u) x.dst v) h := fun v hv => by
        rw [← putDst_comm a2]
        exact hv
      split at hs
      · rename_i hm1
        rw [if_pos hm1]
        exact quiet_mono hm hstep hs
      · rename_i hm1
        rw [if_neg hm1]
        exact ⟨hs.1, hm _ _ _ _ _ (fun v _ hv => ⟨hv.1, hstep v hv.2⟩) hs.2⟩
  · -- call, new
    have hmode : callMode x.op = 1 ∨ 2 ≤ callMode x.op := by have := of_decide_eq_true hc; omega
    have hmode2 : callMode x.op ≠ 1 := by have := of_decide_eq_true hc; omega
    obtain ⟨g, args, fx⟩ := (form_call_cases (env := env) hkx).resolve_left hx
    obtain ⟨ob, f, fy⟩ := (form_new_cases (env := env) hky).resolve_left hy
    rw [fx, sem_quiet hmode, if_neg hmode2] at hs
    rw [fy]
    intro id hid
    rw [fx, sem_quiet hmode, if_neg hmode2]
    refine ⟨hs.1, hm _ _ _ _ _ (fun v _ hv => ⟨hv.1, ?_⟩) hs.2⟩
    have := hv.2
    rw [fy] at this
    rw [← putDst_comm a2]
    exact this id hid
end Go.Proofs.YtdldfflfbfpngaaGreatDoor
namespace Go.Proofs.YtdldfflfbfpngaaGreatDoor
open Go
def dstOk (nt : Nat) : Option Nat → Bool
  | some t => decide (t < nt)
  | none => true
def cOper (num : FuncId → Option Nat) (P : Program) (nt : Nat) (ops : List Oper) (bx : Bool) (mode : Nat) (o : Oper) : Option DOper :=
  (cOp num P bx mode o.op).bind fun d =>
    if dstOk nt o.dst = true then
      match o.guard with
      | none => some ⟨o.dst, d, none⟩
      | some (j, b) => match ops[j]?.bind (·.dst) with
        | some t => some ⟨o.dst, d, some (t, b)⟩
        | none => none
    else none
def direct (o : Oper) : List Nat := (o.after.toList.filter (Region.binds .any)).map (·.on)
def predsOf (ops : List Oper) : List (List Nat) :=
  ops.foldl (fun acc o => acc ++ [((direct o).flatMap fun j => j :: acc.getD j []).eraseDups]) []
def isRead : Op → Bool
  | .load .. | .lookup .. | .call { callee := .builtin .len, .. } => true
  | _ => false
def isNew : Op → Bool
  | .alloc .. | .box .. | .makeMap .. | .makeSlice .. => true
  | _ => false
def unordered (pr : List (List Nat)) (i j : Nat) : Bool := if j < i then !(pr.getD i []).contains j else !(pr.getD j []).contains i
def isApp : Op → Bool
  | .call { callee := .builtin .append, .. } => true
  | _ => false
def beside (ops : List Oper) (pr : List (List Nat)) (i : Nat) (p : Op → Bool) : Bool :=
  (List.range ops.length).any fun j => j != i && unordered pr i j && (match ops[j]? with
    | some o => p o.op
    | none => false)
def isLoad : Op → Bool
  | .load .. => true
  | _ => false
def isCall : Op → Bool
  | .call { callee := .value _, .. } => true
  | _ => false
def cOpers (num : FuncId → Option Nat) (P : Program) (nt : Nat) (ops : List Oper) (draw : Bool) (pr : List (List Nat)) : Nat → List Oper → Option (List DOper)
  | _, [] => some []
  | i, o :: r => (cOper num P nt ops (draw && isLoad o.op && beside ops pr i isApp)
      (if draw && isCall o.op then (if beside ops pr i isNew then 2 else if beside ops pr i isRead then 1 else 0) else 0) o).bind fun d => (cOpers num P nt ops draw pr (i + 1) r).map (d :: ·)
def predsFit (ops : List Oper) (pr : List (List Nat)) : Bool :=
  (List.range ops.length).all fun i => match ops[i]? with
    | some o => (direct o).all (fun j => decide (j < i)) && (pr.getD i []).all fun j => (direct o).contains j || (direct o).any fun k => (pr.getD k []).contains j
    | none => true
def commFit (pr : List (List Nat)) (ds : List DOper) : Bool :=
  (List.range ds.length).all fun i => (List.range i).all fun j => (pr.getD i []).contains j || (match ds[j]?, ds[i]? with
    | some x, some y => commOk x y
    | _, _ => true)
def cRegion (num : FuncId → Option Nat) (P : Program) (nt : Nat) (ops : List Oper) (draw : Bool) : Option (List DOper) :=
  let pr := if draw then predsOf ops else []
  (cOpers num P nt ops draw pr 0 ops).bind fun ds => if draw = false ∨ (predsFit ops pr && commFit pr ds) = true then some ds else none
def noRange : Code → Bool
  | .rangeFunc .. => false
  | .seq a b => noRange a && noRange b
  | .cond _ a b => noRange a && noRange b
  | .block _ c | .loop c | .scope c => noRange c
  | _ => true
def cCode (num : FuncId → Option Nat) (P : Program) (nt : Nat) : Code → Option DCode
  | .skip => some .skip
  | .label _ => some .skip
  | .region _ ops draw => (cRegion num P nt ops.toList draw).map .ops
  | .seq a b => (cCode num P nt a).bind fun a => (cCode num P nt b).map fun b => .seq a b
  | .cond c a b => (cOpd num c).bind fun c => (cCode num P nt a).bind fun a => (cCode num P nt b).map fun b => .cond c a b
  | .block id c => (cCode num P nt c).map (.block id)
  | .loop c => (cCode num P nt c).map .loop
  | .scope c => cCode num P nt c
  | .rangeFunc f ps a b => if noRange a && noRange b && ps.toList.all (fun t => decide (t < nt)) then (match f with
      | .tmp t => (cCode num P nt a).bind fun a => (cCode num P nt b).map fun b => .rangef (.tmp t) ps.toList a b
      | _ => none) else none
  | .exit id => some (.exit id)
  | .ret => some .ret
  | _ => none
def cRes (P : Program) : List ResultVar → Option (List DRes)
  | [] => some []
  | .tmp t :: r => (cRes P r).map (.tmp t :: ·)
  | .cell a t :: r => (aggT P t).bind fun ag => (szT P t).bind fun n => (cRes P r).map (.cell a (if ag then n else 1) ag :: ·)
def cFunc (num : FuncId → Option Nat) (P : Program) (fn : Func) : Option DFunc :=
  fn.body.bind fun c => (cCode num P fn.ntmps c).bind fun d => (cRes P fn.results.toList).map fun rs => ⟨rs, d⟩
end Go.Proofs.YtdldfflfbfpngaaGreatDoor
