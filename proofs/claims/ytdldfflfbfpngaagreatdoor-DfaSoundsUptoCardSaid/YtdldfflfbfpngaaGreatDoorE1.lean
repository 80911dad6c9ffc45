/- Single steps: unsigned numbers, strings, arrays, maps. Numbers as texts, by base 36. A machine at one place, being made least: kinds, texts. -/
import Derived.Test.YtdldfflfbfpngaaGreatDoorB2
import Derived.Test.YtdldfflfbfpngaaGreatDoorCC
import Derived.Test.YtdldfflfbfpngaaGreatDoorD7
set_option linter.unusedVariables false
set_option linter.unusedSimpArgs false
namespace Go.Proofs.YtdldfflfbfpngaaGreatDoor
open Go
def byteCells (s : List UInt8) : List AV := s.map fun b => .int .u8 b.toNat
theorem byteCells_length (s : List UInt8) : (byteCells s).length = s.length := by simp [byteCells]
theorem asBytes_cells (s : List UInt8) : asBytes (byteCells s) = some s := by
 induction s with
 | nil => rfl
 | cons b s ih =>
  have : byteCells (b :: s) = .int .u8 b.toNat :: byteCells s := rfl
  rw [this, asBytes, ih]
  simp
section
variable {F : FnSem} {r : List DOper} {Q : Env → Heap → Prop} {env : Env} {h : Heap} {d : Nat} {x y z c : DOpd}
theorem st_subu {a b s} (hx : ev env x = .int .u64 a) (hy : ev env y = .int .u64 b) (hs : a - b = s) (h1 : 0 ≤ s) (h2 : s ≤ 18446744073709551615) (k : wops F r Q (env.put d (.int .u64 s)) h) : wops F (⟨some d, .bin .sub x y, none⟩ :: r) Q env h := by
 subst hs
 have : IntKind.u64.wrap (a - b) = a - b := by simp [IntKind.wrap, IntKind.bits, IntKind.signed]; omega
 simp [hx, hy, this, k]
theorem st_mulu {a b s} (hx : ev env x = .int .u64 a) (hy : ev env y = .int .u64 b) (hs : a * b = s) (h1 : 0 ≤ s) (h2 : s ≤ 18446744073709551615) (k : wops F r Q (env.put d (.int .u64 s)) h) : wops F (⟨some d, .bin .mul x y, none⟩ :: r) Q env h := by
 subst hs
 have : IntKind.u64.wrap (a * b) = a * b := by simp [IntKind.wrap, IntKind.bits, IntKind.signed]; omega
 simp [hx, hy, this, k]
theorem st_quou {a b} (hx : ev env x = .int .u64 a) (hy : ev env y = .int .u64 b) (h0 : 0 ≤ a) (h1 : 0 < b) (h2 : a ≤ 18446744073709551615) (k1 : wops F r Q (env.put d (.int .u64 (a / b))) h) : wops F (⟨some d, .bin .quo x y, none⟩ :: r) Q env h := by
 have hb : b ≠ 0 := by omega
 have e : a.tdiv b = a / b := Int.tdiv_eq_ediv_of_nonneg h0
 have l1 : 0 ≤ a / b := Int.ediv_nonneg h0 (by omega)
 have l2 : a / b ≤ a := Int.ediv_le_self b h0
 have : IntKind.u64.wrap (a.tdiv b) = a / b := by rw [e]; simp [IntKind.wrap, IntKind.bits, IntKind.signed]; omega
 simp [hx, hy, hb, this, k1]
theorem st_convu {k a} (hx : ev env x = .int k a) (h0 : 0 ≤ a) (h1 : a ≤ 18446744073709551615) (k1 : wops F r Q (env.put d (.int .u64 a)) h) : wops F (⟨some d, .conv .u64 x, none⟩ :: r) Q env h := by
 have : IntKind.u64.wrap a = a := by simp [IntKind.wrap, IntKind.bits, IntKind.signed]; omega
 simp [hx, this, k1]
theorem st_convu_neg {k a} (hx : ev env x = .int k a) (h0 : a < 0) (h1 : -9223372036854775808 ≤ a) (k1 : wops F r Q (env.put d (.int .u64 (a + 18446744073709551616))) h) : wops F (⟨some d, .conv .u64 x, none⟩ :: r) Q env h := by
 have : IntKind.u64.wrap a = a + 18446744073709551616 := by simp [IntKind.wrap, IntKind.bits, IntKind.signed]; omega
 simp [hx, this, k1]
theorem st_negu {a} (hx : ev env x = .int .u64 a) (h0 : 0 < a) (h1 : a ≤ 18446744073709551615) (k1 : wops F r Q (env.put d (.int .u64 (18446744073709551616 - a))) h) : wops F (⟨some d, .un .neg x, none⟩ :: r) Q env h := by
 have : IntKind.u64.wrap (-a) = 18446744073709551616 - a := by simp [IntKind.wrap, IntKind.bits, IntKind.signed]; omega
 simp [hx, this, k1]
theorem st_indexStr {s k j b} (hx : ev env x = .str s) (hy : ev env y = .int k j) (h0 : 0 ≤ j) (h1 : j < s.length) (hb : s.getD j.toNat 0 = b) (k1 : wops F r Q (env.put d (.int .u8 b.toNat)) h) : wops F (⟨some d, .indexStr x y, none⟩ :: r) Q env h := by
 subst hb
 have : j < s.length := h1
 simp only [wops_go, wop_indexStr, pureVal, hx, hy, putDst_some]
 rw [if_pos ⟨h0, h1⟩]
 exact k1
theorem st_indexAddrA_p {n e id g o k j s} (hx : ev env x = .ptr id g o) (hy : ev env y = .int k j) (h0 : 0 ≤ j) (h1 : j < (n : Nat)) (hs : o + j.toNat * e = s) (k1 : wops F r Q (env.put d (.ptr id g s)) h) : wops F (⟨some d, .indexAddrA n e x y, none⟩ :: r) Q env h := by
 subst hs
 simp only [wops_go, wop_indexAddrA, pureVal, hx, hy, putDst_some]
 rw [if_pos ⟨h0, h1⟩]
 exact k1
theorem st_sliceA_lo {n e id g k j cs} (hx : ev env x = .ptr id g 0) (hy : ev env y = .int k j) (hg : h.get id = some (.cells g cs)) (hl : n * e ≤ cs.length) (h0 : 0 ≤ j) (h1 : j ≤ (n : Nat)) (k1 : wops F r Q (env.put d (.own id g e j.toNat (n - j).toNat (some (n - j.toNat)))) h) : wops F (⟨some d, .sliceA n e x (some y) none, none⟩ :: r) Q env h := by
 simp only [wops_go, wop_sliceA, readVal, hx, hy, hg, putDst_some, optInt, Option.bind_some]
 rw [if_pos ⟨trivial, hl, h0, h1, Int.le_refl _⟩]
 exact k1
theorem st_strOf {v m s} (hx : ev env x = v) (hi : v.isStr = false) (hs : srcCells h 1 v = some (m, byteCells s)) (k1 : wops F r Q (env.put d (.str s)) h) : wops F (⟨some d, .strOf x, none⟩ :: r) Q env h := by
 simp only [wops_go, wop_strOf, readVal, hx, hs, putDst_some, hi, Option.bind_some, asBytes_cells, Option.map_some]
 exact k1
theorem st_mkmap {kk} (k1 : ∀ id, h.get id = none → wops F r Q (env.put d (.map id)) (h.set id (.map kk []))) : wops F (⟨some d, .mkmap kk, none⟩ :: r) Q env h := by
 simp only [wops_go, wop_mkmap, putDst_some]
 exact k1
theorem st_lookup {kk zero id es key} (hx : ev env x = .map id) (hy : ev env y = key) (hk : isKey kk key = true) (hg : h.get id = some (.map kk es)) (k1 : wops F r Q (env.put d ((alook es key).getD zero)) h) : wops F (⟨some d, .lookup kk zero false x y, none⟩ :: r) Q env h := by
 simp only [wops_go, wop_lookup, readVal, hx, hy, hg, putDst_some, hk, if_true]
 exact k1
theorem st_lookup2 {kk zero id es key} (hx : ev env x = .map id) (hy : ev env y = key) (hk : isKey kk key = true) (hg : h.get id = some (.map kk es)) (k1 : wops F r Q (env.put d (.tup [(alook es key).getD zero, .bool (alook es key).isSome])) h) : wops F (⟨some d, .lookup kk zero true x y, none⟩ :: r) Q env h := by
 simp only [wops_go, wop_lookup, readVal, hx, hy, hg, putDst_some, hk, if_true]
 exact k1
theorem st_update {kk id es key v} (hx : ev env x = .map id) (hy : ev env y = key) (hz : ev env z = v) (hk : isKey kk key = true) (hv : v.isVal = true) (hg : h.get id = some (.map kk es)) (k1 : wops F r Q env (h.set id (.map kk (aput es key v)))) : wops F (⟨none, .update kk x y z, none⟩ :: r) Q env h := by
 simp only [wops_go, wop_update, effRes, hx, hy, hz, hg, hk, hv, and_self, if_true, putDst_none]
 exact k1
theorem st_eqBB {neg a b} (hx : ev env x = .bool a) (hy : ev env y = .bool b) (k1 : wops F r Q (env.put d (.bool (if neg then !(a == b) else a == b))) h) : wops F (⟨some d, .eqB neg x y, none⟩ :: r) Q env h := by
 simp [hx, hy, k1]
end
end Go.Proofs.YtdldfflfbfpngaaGreatDoor
set_option linter.unusedVariables false
set_option linter.unusedSimpArgs false
namespace Go.Proofs.YtdldfflfbfpngaaGreatDoor
open Go
set_option maxHeartbeats 4000000
attribute [local irreducible] wops xcode wcode seqK blockK loopK finK wcall wop wstp Runs
def digitS : List UInt8 := [48, 49, 50, 51, 52, 53, 54, 55, 56, 57, 97, 98, 99, 100, 101, 102, 103, 104, 105, 106, 107, 108, 109, 110, 111, 112, 113, 114, 115, 116, 117, 118, 119, 120, 121, 122]
def digitC (n : Nat) : UInt8 := digitS.getD n 0
def natS (u : Nat) : List UInt8 := if h : u < 36 then [digitC u] else natS (u / 36) ++ [digitC (u % 36)]
termination_by u
decreasing_by omega
def intS (x : Int) : List UInt8 := if x < 0 then 45 :: natS x.natAbs else natS x.natAbs
theorem natS_lt {u : Nat} (h : u < 36) : natS u = [digitC u] := by rw [natS, dif_pos h]
theorem natS_ge {u : Nat} (h : ¬ u < 36) : natS u = natS (u / 36) ++ [digitC (u % 36)] := by rw [natS, dif_neg h]
theorem natS_pos (u : Nat) : 1 ≤ (natS u).length := by
 by_cases h : u < 36
 ·rw [natS_lt h]; simp
 ·rw [natS_ge h]; simp
theorem natS_length (k : Nat) : ∀ u : Nat, u < 36 ^ (k + 1) → (natS u).length ≤ k + 1 := by
 induction k with
 | zero => intro u h; rw [natS_lt (by simpa using h)]; simp
 | succ k ih =>
  intro u h
  by_cases h1 : u < 36
  ·rw [natS_lt h1]; simp
  ·rw [natS_ge h1]
   have := ih (u / 36) (by rw [Nat.div_lt_iff_lt_mul (by omega)]; rw [Nat.pow_succ] at h; exact h)
   simp
   omega
theorem natS_13 {u : Nat} (h : u < 18446744073709551616) : (natS u).length ≤ 13 := natS_length 12 u (Nat.lt_of_lt_of_le h (by decide))
theorem digit_inj : ∀ a, a < 36 → ∀ b, b < 36 → digitC a = digitC b → a = b := by decide
theorem digit_no : ∀ a, a < 36 → digitC a ≠ 32 ∧ digitC a ≠ 45 := by decide
theorem natS_no {u : Nat} : ∀ c ∈ natS u, c ≠ 32 ∧ c ≠ 45 := by
 induction u using Nat.strongRecOn with
 | ind u ih =>
  by_cases h : u < 36
  ·rw [natS_lt h]
   intro c hc
   obtain rfl := List.mem_singleton.1 hc
   exact digit_no u h
  ·rw [natS_ge h]
   intro c hc
   rcases List.mem_append.1 hc with hc | hc
   ·exact ih (u / 36) (by omega) c hc
   ·obtain rfl := List.mem_singleton.1 hc
    exact digit_no _ (Nat.mod_lt _ (by omega))
theorem natS_inj {u v : Nat} (e : natS u = natS v) : u = v := by
 induction u using Nat.strongRecOn generalizing v with
 | ind u ih =>
  by_cases h : u < 36 <;> by_cases h2 : v < 36
  ·rw [natS_lt h, natS_lt h2] at e
   exact digit_inj u h v h2 (by simpa using e)
  ·rw [natS_lt h, natS_ge h2] at e
   have h3 := congrArg List.length e
   have h4 := natS_pos (v / 36)
   simp only [List.length_append, List.length_cons, List.length_nil] at h3
   omega
  ·rw [natS_ge h, natS_lt h2] at e
   have h3 := congrArg List.length e
   have h4 := natS_pos (u / 36)
   simp only [List.length_append, List.length_cons, List.length_nil] at h3
   omega
  ·rw [natS_ge h, natS_ge h2] at e
   obtain ⟨e1, e2⟩ := List.append_inj' e rfl
   have := ih (u / 36) (by omega) e1
   have := digit_inj _ (Nat.mod_lt _ (by omega)) _ (Nat.mod_lt _ (by omega)) (by simpa using e2)
   omega
theorem intS_no {x : Int} : ∀ c ∈ intS x, c ≠ 32 := by
 intro c hc
 unfold intS at hc
 split at hc
 ·rcases List.mem_cons.1 hc with rfl | hc
  ·decide
  ·exact (natS_no c hc).1
 ·exact (natS_no c hc).1
theorem intS_inj {x y : Int} (e : intS x = intS y) : x = y := by
 unfold intS at e
 split at e <;> split at e
 ·have := natS_inj (List.cons.inj e).2
  omega
 ·have h1 : (45 : UInt8) ∈ natS y.natAbs := e ▸ List.mem_cons_self
  exact absurd rfl (natS_no _ h1).2
 ·have h1 : (45 : UInt8) ∈ natS x.natAbs := e.symm ▸ List.mem_cons_self
  exact absurd rfl (natS_no _ h1).2
 ·have := natS_inj e
  omega
theorem drop_set_one {as : List AV} {i : Nat} {suf : List UInt8} {d : UInt8} (has : as.length = 65) (hi : 1 ≤ i ∧ i ≤ 65) (hdr : as.drop i = byteCells suf) : (as.set (i - 1) (.int .u8 d.toNat)).drop (i - 1) = byteCells (d :: suf) := by
 rw [List.drop_set, if_neg (by omega), Nat.sub_self]
 rw [List.drop_eq_getElem_cons (by omega : i - 1 < as.length), List.set_cons_zero, show i - 1 + 1 = i by omega, hdr]
 rfl
theorem srcCells_own' {h : Heap} {id g e off len m : Nat} {lim : Option Nat} {cs new : List AV} (hg : h.get id = some (.cells g cs)) (hm : len = m) (hl : (off + len) * e ≤ cs.length) (hn : (cs.drop (off * e)).take (len * e) = new) : srcCells h e (.own id g e off len lim) = some (m, new) := by
 subst hm hn
 simp only [srcCells, hg]
 rw [if_pos ⟨trivial, trivial, hl⟩]
theorem resVals_two {env : Env} {h : Heap} {a b : Nat} {v w : AV} (h1 : env a = v) (h2 : env b = w) (n1 : v.isTup = false) (n2 : w.isTup = false) : resVals env h [.tmp a, .tmp b] = some (.tup [v, w]) := by
 subst h1 h2
 have : resVals env h [.tmp a, .tmp b] = if [env a, env b].all (fun x => !x.isTup) = true then some (.tup [env a, env b]) else none := rfl
 rw [this, if_pos]
 rw [List.all_cons, List.all_cons, n1, n2]
 rfl
theorem pow2_ok {Φ : Lib} (L : LibC3 Φ) : Pure Φ 146 [.int .i64 36] (.bool false) := by
 refine runs_of (fun _ => false) rfl L.f146 ?_
 repeat' first | refine st_nil ?_ | (refine gw ?_; first | (refine gq0 ?_; first | refine st_mv (v := AV.int _ _) rfl ?_ | refine st_mv (v := AV.bool _) rfl ?_) | refine st_sub rfl rfl rfl (by omega) (by omega) ?_) | (refine gx ?_; first | refine sx_seq ?_ | refine sx_ops rfl ?_) | refine sk_norm ?_
 refine st_pure rfl (v := .int .i64 32) rfl ?_
 repeat' first | refine st_nil ?_ | (refine gw ?_; first | refine st_mv (v := AV.bool _) rfl ?_ | (refine st_eql rfl rfl rfl ?_ ?_ <;> (intro hc; try (exfalso; omega)))) | refine sx_ret ?_ | refine sk_norm ?_ | refine fin_ret (v := AV.bool _) rfl ?_
 rfl
theorem formatBits_ok {Φ : Lib} (L : LibC3 Φ) {h : Heap} {v : AV} {n : Nat} {cs : List AV} (hrow : IsRow h v 1 n cs) (hn : n ≤ 2147483648) (u : Nat) (hu : u < 18446744073709551616) :
  Runs Φ 140 [v, .int .u64 u, .int .i64 36, .bool false, .bool true] h (fun v' h' => ∃ va, v' = .tup [va, .str []] ∧ IsRow h' va 1 (n + (natS u).length) (cs ++ byteCells (natS u)) ∧ (∀ id, h.get id ≠ none → v.rowId ≠ some id → h'.get id = h.get id) ∧ (∀ id, va.rowId = some id → v.rowId = some id ∨ h.get id = none)) := by
 have hp := pow2_ok L
 have hnt := hrow.notTup
 refine runs_of (fun _ => false) rfl L.f140 ?_
 repeat' first | refine st_nil ?_ | (refine gw ?_; first | (refine gq0 ?_; first | refine st_mv (v := AV.int _ _) rfl ?_ | refine st_mv (v := AV.bool _) rfl ?_ | refine st_mv (v := AV.rd _ _ _) rfl ?_ | refine st_mv (v := AV.str _) rfl ?_) | refine st_gog rfl ?_ | (refine gq3 ?_; first | (refine st_lss rfl rfl rfl ?_ ?_ <;> (intro hc; try (exfalso; omega))) | (refine st_gtr rfl rfl rfl ?_ ?_ <;> (intro hc; try (exfalso; omega))) | (refine st_eql rfl rfl rfl ?_ ?_ <;> (intro hc; try (exfalso; omega)))) | refine st_pick_f (v := AV.bool _) rfl rfl ?_ | refine st_call rfl nt_ ?_ | (refine st_alloc ?_; intro id hid; try simp only [Heap.set_none] at hid) | refine st_convu rfl (by omega) (by omega) ?_) | (refine gx ?_; first | refine sx_seq ?_ | refine sx_ops rfl ?_ | refine sx_skip ?_ | refine sx_block ?_ | refine sx_cond_f rfl ?_) | refine sk_norm ?_ | refine call_pure (by assumption) fz_ fz_ ?_
 have h13 := natS_13 hu
 have hfr : ∀ k, h.get k ≠ none → k ≠ id := fun k hk e => hk (e ▸ hid)
 refine sx_loop (fun m env h' => ∃ (w i : Nat) (suf : List UInt8) (as : List AV), m = w ∧ w ≤ u ∧ suf.length + i = 65 ∧ natS w ++ suf = natS u ∧ as.length = 65 ∧ as.drop i = byteCells suf ∧ h'.get id = some (.cells 0 as) ∧ (∀ k, h.get k ≠ none → h'.get k = h.get k) ∧ env.has [(0, v), (1, .int .u64 w), (3, .bool false), (4, .bool true), (11, .str []), (12, .ptr id 0 0), (13, .int .i64 i), (17, .int .u64 36)]) u ⟨u, 65, [], _, rfl, Nat.le_refl _, rfl, by simp, rfl, rfl, Heap.get_set_self _ _ _, fun k hk => Heap.get_set_ne _ _ (hfr k hk), hh_⟩ ?_
 rintro m env h' ⟨w, i, suf, as, rfl, hwu, hsi, hns, has, hdr, hga, hold, he⟩
 obtain ⟨env, rfl⟩ := he.ex
 clear he
 have hlen := congrArg List.length hns
 rw [List.length_append] at hlen
 by_cases hw : 36 ≤ m
 ·have h1 := natS_pos (m / 36)
  have h2 : (natS m).length = (natS (m / 36)).length + 1 := by rw [natS_ge (by omega)]; simp
  repeat' first | refine st_nil ?_ | (refine gw ?_; first | refine st_mv (v := AV.int _ _) rfl ?_ | (refine gq3 ?_; first | refine st_sub rfl rfl rfl (by omega) (by omega) ?_ | (refine st_geq rfl rfl rfl ?_ ?_ <;> (intro hc; try (exfalso; omega))) | refine st_subu rfl rfl rfl (by omega) (by omega) ?_ | refine st_mulu rfl rfl rfl (by omega) (by omega) ?_ | refine st_quou rfl rfl (by omega) (by omega) (by omega) ?_) | refine st_store_p (v := AV.int _ _) rfl rfl hg_ rfl rfl b_ sv_ ?_ | refine st_indexStr rfl rfl (by omega) (by first | (simp; done) | (simp; omega) | omega) rfl ?_ | refine st_indexAddrA_p rfl rfl (by omega) (by omega) rfl ?_) | (refine gx ?_; first | refine sx_seq ?_ | refine sx_ops rfl ?_ | refine sx_skip ?_ | refine sx_block ?_ | refine sx_cond_t rfl ?_) | refine sk_norm ?_ | refine bk_norm ?_
  rw [show ((i : Int) - 1) = ((i - 1 : Nat) : Int) by omega]
  refine lk_norm (m / 36) (by omega) ⟨m / 36, i - 1, digitC (m % 36) :: suf, _, rfl, by omega, by simp; omega, ?_, by rw [List.length_set]; exact has, ?_, Heap.get_set_self _ _ _, fun k hk => (Heap.get_set_ne _ _ (hfr k hk)).trans (hold k hk), hh_⟩
  ·rw [← hns, natS_ge (show ¬ m < 36 by omega)]
   simp
  ·rw [Int.toNat_natCast, Nat.mul_one, show ((m : Int) - (m : Int) / 36 * 36).toNat = m % 36 by omega]
   exact drop_set_one has ⟨by omega, by omega⟩ hdr
 ·have hi : (natS m).length = 1 := by rw [natS_lt (by omega)]; rfl
  have e1 : natS u = digitC m :: suf := by rw [← hns, natS_lt (by omega)]; rfl
  repeat' first | refine st_nil ?_ | (refine gw ?_; first | (refine gq0 ?_; first | refine st_mv (v := AV.int _ _) rfl ?_ | refine st_mv (v := AV.bool _) rfl ?_ | refine st_mv rv_ ?_) | (refine gq3 ?_; first | refine st_sub rfl rfl rfl (by omega) (by omega) ?_ | (refine st_geq rfl rfl rfl ?_ ?_ <;> (intro hc; try (exfalso; omega)))) | refine st_store_p (v := AV.int _ _) rfl rfl hg_ rfl rfl b_ sv_ ?_ | refine st_indexStr rfl rfl (by omega) (by first | (simp; done) | (simp; omega) | omega) rfl ?_ | refine st_indexAddrA_p rfl rfl (by omega) (by omega) rfl ?_) | (refine gx ?_; first | refine sx_seq ?_ | refine sx_ops rfl ?_ | refine sx_skip ?_ | refine sx_exit ?_ | refine sx_cond_t rfl ?_ | refine sx_cond_f rfl ?_) | refine sk_norm ?_ | refine sk_exit ?_ | refine bk_exit ?_ | refine lk_exit ?_
  rw [show ((i : Int) - 1) = ((i - 1 : Nat) : Int) by omega]
  have hd := drop_set_one (d := digitC m) has ⟨by omega, by omega⟩ hdr
  rw [← e1] at hd
  refine st_sliceA_lo rfl rfl (Heap.get_set_self _ _ _) (by rw [List.length_set, has]; exact Nat.le_refl _) (by omega) (by omega) ?_
  have hrow2 : ∀ ob, IsRow (h'.set id ob) v 1 n cs := fun ob => hrow.keep fun k hk => (Heap.get_set_ne _ _ (hfr k (hrow.there hk))).trans (hold k (hrow.there hk))
  refine st_append_src (n := n) (m := (natS u).length) (new := byteCells (natS u)) (w := .own id 0 1 _ _ _) rfl (hrow2 _) rfl (srcCells_own' (Heap.get_set_self _ _ _) ?_ ?_ ?_) (by rw [byteCells_length, Nat.mul_one]) (by omega) ?_
  ·rw [e1]; simp; omega
  ·rw [List.length_set, has]; omega
  ·simp only [Int.toNat_natCast, Nat.mul_one]
   refine (congrArg (List.take _) hd).trans (List.take_of_length_le ?_)
   rw [byteCells_length, e1]; simp; omega
  ·intro va hb hra hka hia
   repeat' first | refine st_nil ?_ | refine st_mv rv_ ?_ | refine sx_ret ?_ | refine sk_norm ?_ | refine sk_ret ?_
   refine fin_ret (v := .tup [va, .str []]) (resVals_two rfl rfl hra.notTup rfl) ⟨va, rfl, hra, fun k hk hv => (hka k ?_ hv).trans ((Heap.get_set_ne _ _ (hfr k hk)).trans (hold k hk)), fun k hk => ?_⟩
   ·rw [Heap.get_set_ne _ _ (hfr k hk), hold k hk]
    exact hk
   ·rcases hia k hk with h | h
    ·exact .inl h
    ·right
     apply Classical.byContradiction
     intro hne
     rw [Heap.get_set_ne _ _ (hfr k hne), hold k hne] at h
     exact hne h
theorem appendUint_ok {Φ : Lib} (L : LibC3 Φ) {h : Heap} {v : AV} {n : Nat} {cs : List AV} (hrow : IsRow h v 1 n cs) (hn : n ≤ 2147483648) (u : Nat) (hu : u < 18446744073709551616) :
  Runs Φ 127 [v, .int .u64 u, .int .i64 36] h (fun va h' => IsRow h' va 1 (n + (natS u).length) (cs ++ byteCells (natS u)) ∧ (∀ id, h.get id ≠ none → v.rowId ≠ some id → h'.get id = h.get id) ∧ (∀ id, va.rowId = some id → v.rowId = some id ∨ h.get id = none)) := by
 have hnt := hrow.notTup
 refine runs_of (fun _ => false) rfl L.f127 ?_
 repeat' first | refine st_nil ?_ | (refine gw ?_; first | (refine gq0 ?_; first | refine st_mv (v := AV.int _ _) rfl ?_ | refine st_mv (v := AV.rd _ _ _) rfl ?_ | refine st_mv rv_ ?_) | (refine st_eql rfl rfl rfl ?_ ?_ <;> (intro hc; try (exfalso; omega))) | refine st_call rfl nt_ ?_) | (refine gx ?_; first | refine sx_seq ?_ | refine sx_ops rfl ?_ | refine sx_skip ?_ | refine sx_cond_f rfl ?_) | refine sk_norm ?_
 refine call_any (formatBits_ok L hrow hn u hu) ?_
 rintro _ h' ⟨va, rfl, h1, h2, h3⟩
 have hnt2 := h1.notTup
 repeat' first | refine st_nil ?_ | (refine gw ?_; first | (refine gq0 ?_; first | refine st_mv (v := AV.tup _) rfl ?_ | refine st_mv rv_ ?_) | refine st_extract rfl rfl ?_) | (refine gx ?_; first | refine sx_seq ?_ | refine sx_ops rfl ?_ | refine sx_ret ?_) | refine sk_norm ?_
 exact fin_ret rfl ⟨h1, h2, h3⟩
theorem appendInt_ok {Φ : Lib} (L : LibC3 Φ) {h : Heap} {v : AV} {n : Nat} {cs : List AV} (hrow : IsRow h v 1 n cs) (hn : n ≤ 1073741824) (x : Int) (hx1 : -9223372036854775808 ≤ x) (hx2 : x ≤ 9223372036854775807) :
  Runs Φ 124 [v, .int .i64 x, .int .i64 36] h (fun va h' => IsRow h' va 1 (n + (intS x).length) (cs ++ byteCells (intS x)) ∧ (∀ id, h.get id ≠ none → v.rowId ≠ some id → h'.get id = h.get id) ∧ (∀ id, va.rowId = some id → v.rowId = some id ∨ h.get id = none)) := by
 have hnt := hrow.notTup
 refine runs_of (fun _ => false) rfl L.f124 ?_
 by_cases hx : x < 0
 ·refine sx_seq ?_
  repeat' first | refine st_nil ?_ | (refine gq0 ?_; first | refine st_mv (v := AV.int _ _) rfl ?_ | refine st_mv (v := AV.rd _ _ _) rfl ?_) | (refine gx ?_; first | refine sx_seq ?_ | refine sx_ops rfl ?_) | refine sk_norm ?_
  refine st_convu_neg rfl hx hx1 ?_
  repeat' first | refine st_nil ?_ | (refine gw ?_; first | (refine gq0 ?_; first | refine st_mv (v := AV.int _ _) rfl ?_ | refine st_mv rv_ ?_) | (refine st_lss rfl rfl rfl ?_ ?_ <;> (intro hc; try (exfalso; omega))) | (refine st_append (m := 1) rv_ ir_ rfl rfl (by omega) ?_; intro va hpa hra hka hria) | refine st_lit (cs := [AV.int _ _]) rfl rfl ?_) | (refine gx ?_; first | refine sx_seq ?_ | refine sx_ops rfl ?_ | refine sx_cond_t rfl ?_) | refine sk_norm ?_
  refine st_negu rfl (by omega) (by omega) ?_
  repeat' first | refine st_nil ?_ | (refine gw ?_; first | (refine gq0 ?_; first | refine st_mv (v := AV.int _ _) rfl ?_ | refine st_mv rv_ ?_) | refine st_call rfl nt_ ?_) | (refine gx ?_; first | refine sx_seq ?_ | refine sx_ops rfl ?_) | refine sk_norm ?_
  have e1 : 18446744073709551616 - (x + 18446744073709551616) = (x.natAbs : Int) := by omega
  rw [e1]
  refine call_any (appendUint_ok L hra (by omega) x.natAbs (by omega)) ?_
  rintro va2 h2 ⟨k1, k2, k3⟩
  have hnt2 := k1.notTup
  repeat' first | refine st_nil ?_ | refine st_mv rv_ ?_ | refine sx_ret ?_ | refine sk_norm ?_
  have e2 : intS x = 45 :: natS x.natAbs := by rw [intS, if_pos hx]
  refine fin_ret rfl ⟨?_, fun k hk hv => ?_, fun k hk => ?_⟩
  ·rw [e2]
   rw [show n + (45 :: natS x.natAbs).length = n + 1 + (natS x.natAbs).length by simp; omega]
   have e3 : cs ++ byteCells (45 :: natS x.natAbs) = cs ++ [AV.int .u8 45] ++ byteCells (natS x.natAbs) := by simp [byteCells]
   rw [e3]
   exact k1
  ·rw [k2 k (by rw [hka k hk hv]; exact hk) fun e => ?_, hka k hk hv]
   rcases hria k e with h | h
   ·exact hv h
   ·exact hk h
  ·rcases k3 k hk with h | h
   ·exact hria k h
   ·by_cases hv : v.rowId = some k
    ·exact .inl hv
    ·right
     apply Classical.byContradiction
     intro hne
     rw [hka k hne hv] at h
     exact hne h
 ·have e2 : intS x = natS x.natAbs := by rw [intS, if_neg hx]
  repeat' first | refine st_nil ?_ | (refine gw ?_; first | (refine gq0 ?_; first | refine st_mv (v := AV.int _ _) rfl ?_ | refine st_mv (v := AV.rd _ _ _) rfl ?_ | refine st_mv rv_ ?_) | (refine st_lss rfl rfl rfl ?_ ?_ <;> (intro hc; try (exfalso; omega))) | refine st_call rfl nt_ ?_ | refine st_convu rfl (by omega) (by omega) ?_) | (refine gx ?_; first | refine sx_seq ?_ | refine sx_ops rfl ?_ | refine sx_skip ?_ | refine sx_cond_f rfl ?_) | refine sk_norm ?_
  have e1 : x = (x.natAbs : Int) := by omega
  rw [e1]
  refine call_any (appendUint_ok L hrow (by omega) x.natAbs (by omega)) ?_
  rintro va2 h2 ⟨k1, k2, k3⟩
  have hnt2 := k1.notTup
  repeat' first | refine st_nil ?_ | refine st_mv rv_ ?_ | refine sx_ret ?_ | refine sk_norm ?_
  rw [← e1, e2]
  exact fin_ret rfl ⟨k1, k2, k3⟩
theorem strconv_ok {Φ : Lib} (L : LibC3 Φ) {h : Heap} {v : AV} {n : Nat} {cs : List AV} (hrow : IsRow h v 1 n cs) (hn : n ≤ 1073741824) (x : Int) (hx1 : -9223372036854775808 ≤ x) (hx2 : x ≤ 9223372036854775807) :
  Runs Φ 118 [v, .int .i64 x, .int .i64 36] h (fun va h' => IsRow h' va 1 (n + (intS x).length) (cs ++ byteCells (intS x)) ∧ (∀ id, h.get id ≠ none → v.rowId ≠ some id → h'.get id = h.get id) ∧ (∀ id, va.rowId = some id → v.rowId = some id ∨ h.get id = none)) := by
 have hnt := hrow.notTup
 refine runs_of (fun _ => false) rfl L.f118 ?_
 repeat' first | refine st_nil ?_ | (refine gw ?_; first | (refine gq0 ?_; first | refine st_mv (v := AV.int _ _) rfl ?_ | refine st_mv (v := AV.rd _ _ _) rfl ?_ | refine st_mv rv_ ?_) | refine st_call rfl nt_ ?_) | (refine gx ?_; first | refine sx_seq ?_ | refine sx_ops rfl ?_) | refine sk_norm ?_
 refine call_any (appendInt_ok L hrow hn x hx1 hx2) ?_
 rintro va h' ⟨h1, h2, h3⟩
 have hnt2 := h1.notTup
 repeat' first | refine st_nil ?_ | refine st_mv rv_ ?_ | refine sx_ret ?_ | refine sk_norm ?_
 exact fin_ret rfl ⟨h1, h2, h3⟩
end Go.Proofs.YtdldfflfbfpngaaGreatDoor
set_option linter.unusedVariables false
set_option linter.unusedSimpArgs false
namespace Go.Proofs.YtdldfflfbfpngaaGreatDoor
open Go
set_option maxHeartbeats 4000000
attribute [local irreducible] wops xcode wcode seqK blockK loopK finK wcall wop wstp Runs
structure Dfa where
 parts : Rw (Rw Span)
 next : Rw (Rw Int)
 tags : Rw Int
@[reducible] def Rw.sv (r : Rw Span) : AV := r.av Span.av
@[reducible] def Dfa.av (d : Dfa) : List AV := [d.parts.mv Rw.sv, d.next.mv Rw.iv, d.tags.iv]
@[simp] theorem frz_svs (l : List (Rw Span)) : AV.frozenL (l.map Rw.sv) = true := frozenL_map (fun r => by simp [AV.frozen]) l
@[simp] theorem frz_dfa (d : Dfa) : AV.frozenL d.av = true := by simp [Dfa.av, AV.frozenL, AV.frozen]
theorem natS_8 {u : Nat} (h : u < 2821109907456) : (natS u).length ≤ 8 := natS_length 7 u (Nat.lt_of_lt_of_le h (by decide))
theorem intS_9 {x : Int} (h1 : -2147483648 ≤ x) (h2 : x ≤ 2147483647) : (intS x).length ≤ 9 := by
 have := natS_8 (u := x.natAbs) (by omega)
 unfold intS
 split
 ·simp; omega
 ·omega
theorem byteCells_append (l m : List UInt8) : byteCells (l ++ m) = byteCells l ++ byteCells m := by simp [byteCells]
end Go.Proofs.YtdldfflfbfpngaaGreatDoor
