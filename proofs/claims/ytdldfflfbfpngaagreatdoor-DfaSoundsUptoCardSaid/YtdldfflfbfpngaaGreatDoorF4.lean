/- The statements' machine made. The statements: twice; tells. -/
import Derived.Test.YtdldfflfbfpngaaGreatDoorF3
set_option linter.unusedVariables false
set_option linter.unusedSimpArgs false
namespace Go.Proofs.YtdldfflfbfpngaaGreatDoor
open Go
set_option maxHeartbeats 4000000
attribute [local irreducible] wops xcode wcode seqK blockK loopK finK wcall wop wstp Runs
@[reducible] def i8row (r : Rw Int) : AV := .rd r.l.length (r.l.map (.int .i8)) r.fl
@[reducible] def u16row (r : Rw Int) : AV := row16 r.l r.fl
structure MakeIn (c : Rw (Rw Int)) (k : Int) (next tags : Rw Int) : Prop where
 cl : c.l.length ≤ 1048576
 cs : ∀ r ∈ c.l, r.l.length ≤ 1048576 ∧ ∀ x ∈ r.l, 0 ≤ x ∧ x ≤ 65535
 k : 0 ≤ k ∧ k ≤ 255
 nl : next.l.length ≤ 1048576
 ns : ∀ x ∈ next.l, -128 ≤ x ∧ x ≤ 127
 tl : tags.l.length ≤ 1048576
 ts : ∀ x ∈ tags.l, -128 ≤ x ∧ x ≤ 127
structure Made (d : Dfa) : Prop where
 ok : d.plain.Ok
 wide : d.Wide
 tags : ∀ t ∈ d.tags.l, -1 ≤ t ∧ t ≤ 3
theorem catS_64 (l : List (Rw Span)) (h : ∀ s ∈ l, s.l.length ≤ 64) : (catS l).length ≤ 64 * l.length := by
 induction l with
 | nil => simp [catS]
 | cons s l ih =>
  have h1 := ih fun q hq => h q (by simp [hq])
  have h2 := h s (by simp)
  simp [catS] at h1 ⊢
  omega
theorem made_ok {Ls : List (Rw Span)} {P : Rw (Rw Span)} {rows : List (List Int)} {ts : List Int} (hat : Ats Ls P.l) (hp : P.l.length ≤ 2000) (h1 : 1 ≤ ts.length) (h2 : ts.length ≤ 2000) (hl : rows.length = ts.length) (hr : ∀ r ∈ rows, r.length = P.l.length ∧ ∀ x ∈ r, x = -1 ∨ In ts.length x) (ht : ∀ t ∈ ts, -1 ≤ t) : (Dfa.mk P ⟨rows.map fun r => ⟨r, false⟩, false⟩ ⟨ts, false⟩).plain.Ok := by
 have hpl : (plainS P.l).length = P.l.length := by simp [plainS]
 refine ⟨by show (plainS P.l).length ≤ 2000; omega, h1, h2, ?_, fun q hq => ?_, fun i j hij hj x hx => ?_, fun r hr' => ?_, ht⟩
 ·show (plainI (rows.map fun r => Rw.mk r false)).length = ts.length
  simp [plainI, hl]
 ·obtain ⟨p, hp, rfl⟩ := List.mem_map.1 hq
  exact (hat.good p hp).2
 ·have hj2 : j < (plainS P.l).length := hj
  rw [hpl] at hj2
  have h3 := List.pairwise_iff_getElem.1 hat.apart i j (by omega) hj2 hij
  have e : ∀ {n : Nat} (hn : n < P.l.length), (Dfa.mk P ⟨rows.map fun r => ⟨r, false⟩, false⟩ ⟨ts, false⟩).plain.part n = P.l[n].l := fun {n} hn => by
   simp [PD.part, Dfa.plain, plainS, List.getD_eq_getElem?_getD, hn]
  rw [e (by omega), e hj2] at hx
  exact h3 x hx
 ·have : r ∈ plainI (rows.map fun r => Rw.mk r false) := hr'
  simp [plainI] at this
  have h4 := hr r this
  refine ⟨?_, h4.2⟩
  show r.length = (plainS P.l).length
  omega
set_option maxRecDepth 100000 in
theorem make11_ok {Φ : Lib} (L : LibC3 Φ) (L2 : C2Lib Φ) (c : Rw (Rw Int)) (k : Int) (next tags : Rw Int) (hm : MakeIn c k next tags) :
  Runs Φ 156 [c.mv u16row, .int .u8 k, i8row next, i8row tags] Heap.empty (fun v _ => ∃ d : Dfa, Made d ∧ v = .agg d.av) := by
 have hcl := hm.cl
 have hk1 := hm.k.1
 have hk2 := hm.k.2
 have hnl := hm.nl
 have htl := hm.tl
 refine runs_of (fun o => o == some 10 || o == some 43 || o == some 93) rfl L.f156 ?_
 repeat' first | refine st_nil ?_ | (refine gw ?_; first | refine st_mv (v := AV.rd _ _ _) rfl ?_ | (refine st_alloc ?_; intro id hid; try simp only [Heap.set_none] at hid)) | (refine gx ?_; first | refine sx_seq ?_ | refine sx_ops rfl ?_) | refine sk_norm ?_
 obtain ⟨i8, rfl⟩ : ∃ x, x = id := ⟨_, rfl⟩
 have hS0 : Sep (Heap.empty.set i8 nil3) [cOld Heap.empty, cCell i8 nil3] := (Sep.old Heap.empty).new hid
 have hS0 : Sep (Heap.empty.set i8 nil3) [cCell i8 nil3] := hS0.weak (by simp)
 generalize Heap.empty.set i8 nil3 = h0 at *
 refine sx_mid2 (fun e h2 => ∃ (v : AV) (Ls : List (Rw Span)), Ls.length ≤ 4 ∧ (∀ s ∈ Ls, s.l.length ≤ 64 ∧ ∀ x ∈ s.l, 0 ≤ x.hi) ∧ Sep h2 [cCell i8 nil3, cRow v 1 Ls.length (Ls.map Rw.sv)] ∧ e.has [(1, .int .u8 k), (2, i8row next), (3, i8row tags), (8, .ptr i8 0 0), (9, v)]) ?_ ?_
 ·refine sx_seq ?_
  refine sx_opsZ rfl ?_
  repeat' first | refine st_nil ?_ | refine st_mv (v := AV.int _ _) rfl ?_ | refine sx_block ?_ | refine sk_norm ?_
  refine sx_for c.l.length (fun i env h' => ∃ (v : AV) (Ls : List (Rw Span)), Ls.length ≤ i ∧ (∀ s ∈ Ls, s.l.length ≤ 64 ∧ ∀ x ∈ s.l, 0 ≤ x.hi) ∧ i ≤ 4 ∧ Sep h' [cCell i8 nil3, cRow v 1 Ls.length (Ls.map Rw.sv)] ∧ env.has [(0, c.mv u16row), (1, .int .u8 k), (2, i8row next), (3, i8row tags), (8, .ptr i8 0 0), (9, v), (10, .int .i64 i)]) ⟨_, [], by simp, by simp, by omega, hS0.nil 1, hh_⟩ ?_
  rintro i env h' hi ⟨v, Ls, hl1, hls, hi4, hS, he⟩
  have hrow : IsRow h' v 1 Ls.length _ := hS.get (i := 1) rfl
  obtain ⟨env, rfl⟩ := he.ex
  clear he
  by_cases hi2 : i < c.l.length
  ·by_cases hi3 : i < 4
   ·obtain ⟨r, hr⟩ := ex_get hi2
    obtain ⟨hrl, hrx⟩ := hm.cs r (List.mem_of_getElem? hr)
    by_cases hr8 : r.l.length < 8
    ·repeat' first | refine st_nil ?_ | (refine gw ?_; first | (refine gq0 ?_; first | refine st_mv (v := AV.int _ _) rfl ?_ | refine st_mv (v := AV.bool _) rfl ?_ | refine st_mv (v := AV.rd _ _ _) rfl ?_ | refine st_mv rv_ ?_) | refine st_gog rfl ?_ | refine st_load_r rfl b_ pv_ ?_ | (refine st_lss rfl rfl rfl ?_ ?_ <;> (intro hc; try (exfalso; omega))) | refine st_index_map' rfl rfl hr (by omega) rfl ?_ | refine st_len_rd rfl ?_ | refine st_pick_t (v := AV.bool _) rfl rfl ?_ | refine st_call rfl nt_ ?_) | (refine gx ?_; first | refine sx_seq ?_ | refine sx_ops rfl ?_ | refine sx_skip ?_ | refine sx_block ?_ | refine sx_cond_t rfl ?_) | refine sk_norm ?_
     refine call_ex (make1_ok L2 r.l r.fl hrl hrx) (by simp [AV.frozenL, AV.frozen]) (by rintro _ ⟨s, rfl, _⟩; simp [AV.frozen]) ?_
     rintro _ ⟨s, rfl, hs1, hs2⟩
     repeat' first | refine st_nil ?_ | (refine gw ?_; first | (refine gq0 ?_; first | refine st_mv (v := AV.int _ _) rfl ?_ | refine st_mv rv_ ?_) | refine st_add rfl rfl rfl (by omega) (by omega) ?_ | (refine st_append (m := 1) rv_ ir_ rfl rfl (by omega) ?_; intro va hpa hra hka hria) | refine st_lit (cs := [AV.rd _ _ _]) rfl rfl ?_) | refine sx_ops rfl ?_ | refine sk_norm ?_ | refine bk_norm ?_
     have hS2 := hS.upd 1 (cRow va 1 (Ls.length + 1) (Ls.map Rw.sv ++ [.rd s.length (s.flatMap Span.av) false])) rfl hra hka hria
     refine lk_next hi2 ⟨va, Ls ++ [⟨s, false⟩], by simp; omega, fun q hq => ?_, by omega, ?_, hh_⟩
     ·rcases List.mem_append.1 hq with hq | hq
      ·exact hls q hq
      ·simp at hq; subst hq; exact ⟨by show s.length ≤ 64; omega, hs2⟩
     ·rw [List.length_append, List.map_append]
      exact hS2
    ·repeat' first | refine st_nil ?_ | (refine gw ?_; first | (refine gq0 ?_; first | refine st_mv (v := AV.int _ _) rfl ?_ | refine st_mv (v := AV.bool _) rfl ?_ | refine st_mv (v := AV.rd _ _ _) rfl ?_) | refine st_gog rfl ?_ | refine st_load_r rfl b_ pv_ ?_ | (refine gq3 ?_; first | refine st_add rfl rfl rfl (by omega) (by omega) ?_ | (refine st_lss rfl rfl rfl ?_ ?_ <;> (intro hc; try (exfalso; omega)))) | refine st_index_map' rfl rfl hr (by omega) rfl ?_ | refine st_len_rd rfl ?_ | refine st_pick_t (v := AV.bool _) rfl rfl ?_) | (refine gx ?_; first | refine sx_seq ?_ | refine sx_ops rfl ?_ | refine sx_skip ?_ | refine sx_block ?_ | refine sx_cond_t rfl ?_ | refine sx_cond_f rfl ?_) | refine sk_norm ?_ | refine bk_norm ?_
     exact lk_next hi2 ⟨v, Ls, by omega, hls, by omega, hS, hh_⟩
   ·repeat' first | refine st_nil ?_ | (refine gw ?_; first | (refine gq0 ?_; first | refine st_mv (v := AV.int _ _) rfl ?_ | refine st_mv (v := AV.bool _) rfl ?_ | refine st_mv (v := AV.rd _ _ _) rfl ?_) | refine st_gog rfl ?_ | (refine st_lss rfl rfl rfl ?_ ?_ <;> (intro hc; try (exfalso; omega))) | refine st_len_rd rfl ?_ | refine st_pick_t (v := AV.bool _) rfl rfl ?_) | (refine gx ?_; first | refine sx_seq ?_ | refine sx_ops rfl ?_ | refine sx_exit ?_ | refine sx_cond_f rfl ?_) | refine sk_norm ?_ | refine sk_exit ?_ | refine bk_exit ?_ | refine lk_exit ?_
    exact ⟨v, Ls, by omega, hls, hS, hh_⟩
  ·repeat' first | refine st_nil ?_ | (refine gw ?_; first | (refine gq0 ?_; first | refine st_mv (v := AV.int _ _) rfl ?_ | refine st_mv (v := AV.bool _) rfl ?_ | refine st_mv (v := AV.rd _ _ _) rfl ?_) | refine st_skipg rfl ?_ | (refine st_lss rfl rfl rfl ?_ ?_ <;> (intro hc; try (exfalso; omega))) | refine st_len_rd rfl ?_ | refine st_pick_f (v := AV.bool _) rfl rfl ?_) | (refine gx ?_; first | refine sx_seq ?_ | refine sx_ops rfl ?_ | refine sx_exit ?_ | refine sx_cond_f rfl ?_) | refine sk_norm ?_ | refine sk_exit ?_ | refine bk_exit ?_ | refine lk_exit ?_
   exact ⟨v, Ls, by omega, hls, hS, hh_⟩
 ·rintro env h' ⟨v, Ls, hl4, hls, hS, he⟩
  have hrow : IsRow h' v 1 Ls.length _ := hS.get (i := 1) rfl
  obtain ⟨env, rfl⟩ := he.ex
  clear he
  repeat' first | refine sx_seq ?_
  refine sx_freeze 9 (v := v) rfl rfl hrow ?_
  intro h1 hkk
  have hS1 : Sep h1 [cCell i8 nil3] := hS.drop 1 (h' := h1) rfl hkk
  clear hrow hS hkk
  have hcat := catS_64 Ls fun s hs => (hls s hs).1
  have q1 := of10_ok L L2 ⟨Ls, false⟩ (by show Ls.length ≤ _; omega) (fun s hs => ⟨by have := (hls s hs).1; omega, fun x hx => by have := (hls s hs).2 x hx; omega⟩) (by show (catS Ls).length ≤ _; omega)
  have hat : Ats Ls (ofR Ls).l := (atoms_ok Ls).ats.sub (sortR_perm _)
  have hPc := hat.cat
  have hPl := hat.count
  rw [edgesU_length] at hPc
  have hPc : (catS (ofR Ls).l).length ≤ 514 := by omega
  have hPl : (ofR Ls).l.length ≤ 514 := by omega
  simp only at q1
  generalize ofR Ls = P at *
  repeat' first | refine st_nil ?_ | (refine gw ?_; first | (refine gq0 ?_; first | refine st_mv (v := AV.int _ _) rfl ?_ | refine st_mv (v := AV.rd _ _ _) rfl ?_) | (refine gq3 ?_; first | refine st_add rfl rfl rfl (by omega) (by omega) ?_ | refine st_rem rfl rfl rfl (by omega) (by omega) ?_) | refine st_call rfl nt_ ?_ | (refine st_alloc ?_; intro id hid; try simp only [Heap.set_none] at hid) | refine st_store_s (cs' := [AV.rd _ _ _, AV.rd _ _ _, AV.rd _ _ _]) rfl rfl rfl rfl b_ rfl ?_ | refine st_build (cs := [AV.rd _ _ _, AV.rd _ _ _, AV.rd _ _ _]) rfl ?_ | refine st_conv rfl (by omega) (by omega) ?_) | (refine gx ?_; first | refine sx_seq ?_ | refine sx_ops rfl ?_ | refine sx_block ?_) | refine sk_norm ?_ | refine call_pure (by assumption) fz_ fz_ ?_
  obtain ⟨i11, rfl⟩ : ∃ x, x = id := ⟨_, rfl⟩
  have hS2 := ((hS1.new (o := .cells 0 [P.mv Rw.sv, .rd 0 [] true, .rd 0 [] true]) hid).nil 1).nil 1
  have hN1 : (1 + k % 9).toNat ≤ 9 := by omega
  have hN2 : 1 ≤ (1 + k % 9).toNat := by omega
  have hN3 : (((1 + k % 9).toNat : Nat) : Int) = 1 + k % 9 := by omega
  refine sx_for (1 + k % 9).toNat (fun i env h' => ∃ (a : Nat) (vn vt : AV) (rows : List (List Int)) (ts : List Int), rows.length = i ∧ ts.length = i ∧ a ≤ i * 514 ∧ (∀ r ∈ rows, r.length = P.l.length ∧ ∀ x ∈ r, x = -1 ∨ In (1 + k % 9).toNat x) ∧ (∀ t ∈ ts, -1 ≤ t ∧ t ≤ 3) ∧ Sep h' [cCell i8 nil3, cCell i11 (.cells 0 [P.mv Rw.sv, vn, vt]), cRow vn 1 i (rows.map rowI), cRow vt 1 i (ts.map (.int .i64))] ∧ env.has [(2, i8row next), (3, i8row tags), (8, .ptr i8 0 0), (11, .ptr i11 0 0), (12, .int .i64 (1 + k % 9)), (13, .int .i64 a), (14, .int .i64 i)]) ⟨0, _, _, [], [], rfl, rfl, by omega, by simp, by simp, hS2, hh_⟩ ?_
  clear hS2 hS1 hS0 hid
  rintro i env h' hi ⟨a, vn, vt, rows, ts, hrl, htsl, ha, hrows, hts, hS, he⟩
  have h11 : h'.get i11 = some (.cells 0 [P.mv Rw.sv, vn, vt]) := hS.get (i := 1) rfl
  have h8 : h'.get i8 = some nil3 := hS.get (i := 0) rfl
  have hrn : IsRow h' vn 1 i _ := hS.get (i := 2) rfl
  have hrt : IsRow h' vt 1 i _ := hS.get (i := 3) rfl
  have hnn := hrn.notTup
  have hnt := hrt.notTup
  obtain ⟨env, rfl⟩ := he.ex
  clear he
  by_cases hi2 : i < (1 + k % 9).toNat
  ·repeat' first | refine st_nil ?_ | (refine gw ?_; first | (refine gq0 ?_; first | refine st_mv (v := AV.int _ _) rfl ?_ | refine st_mv (v := AV.rd _ _ _) rfl ?_) | (refine st_lss rfl rfl rfl ?_ ?_ <;> (intro hc; try (exfalso; omega)))) | (refine gx ?_; first | refine sx_seq ?_ | refine sx_ops rfl ?_ | refine sx_skip ?_ | refine sx_block ?_ | refine sx_cond_t rfl ?_) | refine sk_norm ?_
   refine sx_for P.l.length (fun j env h' => ∃ (a : Nat) (vr : AV) (xs : List Int), xs.length = j ∧ a ≤ i * 514 + j ∧ (∀ x ∈ xs, x = -1 ∨ In (1 + k % 9).toNat x) ∧ Sep h' [cCell i8 nil3, cCell i11 (.cells 0 [P.mv Rw.sv, vn, vt]), cRow vn 1 i (rows.map rowI), cRow vt 1 i (ts.map (.int .i64)), cRow vr 1 j (xs.map (.int .i64))] ∧ env.has [(2, i8row next), (3, i8row tags), (8, .ptr i8 0 0), (11, .ptr i11 0 0), (12, .int .i64 (1 + k % 9)), (13, .int .i64 a), (14, .int .i64 i), (15, vr), (16, .int .i64 j)]) ⟨a, _, [], rfl, by omega, by simp, hS.nil 1, hh_⟩ ?_
   clear hS h11 h8 hrn hrt ha
   rintro j env h' hj ⟨a, vr, xs, hxl, ha, hxs, hS, he⟩
   have h11 : h'.get i11 = some (.cells 0 [P.mv Rw.sv, vn, vt]) := hS.get (i := 1) rfl
   have h8 : h'.get i8 = some nil3 := hS.get (i := 0) rfl
   have hrr : IsRow h' vr 1 j _ := hS.get (i := 4) rfl
   obtain ⟨env, rfl⟩ := he.ex
   clear he
   by_cases hj2 : j < P.l.length
   ·by_cases hn0 : 0 < next.l.length
    ·have hmod : a % next.l.length < next.l.length := Nat.mod_lt _ hn0
     obtain ⟨x, hx⟩ := ex_get hmod
     have hmi : ((a % next.l.length : Nat) : Int) = (a : Int) % (next.l.length : Int) := Int.natCast_emod _ _
     have hxr := hm.ns x (List.mem_of_getElem? hx)
     have htm := Int.tmod_lt_of_pos x (show 0 < 1 + k % 9 by omega)
     repeat' first | refine st_nil ?_ | (refine gw ?_; first | (refine gq0 ?_; first | refine st_mv (v := AV.int _ _) rfl ?_ | refine st_mv (v := AV.rd _ _ _) rfl ?_ | refine st_mv rv_ ?_) | (refine gq2 ?_; first | refine st_load_r rfl b_ pv_ ?_ | refine st_load_p rfl hg_ (by simp) b_ pv_ ?_) | (refine gq3 ?_; first | refine st_add rfl rfl rfl (by omega) (by omega) ?_ | (refine st_lss rfl rfl rfl ?_ ?_ <;> (intro hc; try (exfalso; omega))) | (refine st_gtr rfl rfl rfl ?_ ?_ <;> (intro hc; try (exfalso; omega))) | refine st_rem rfl rfl rfl (by omega) (by omega) ?_ | refine st_remt rfl rfl rfl (by omega) ?_) | refine st_field_p rfl (Nat.zero_add _) ?_ | refine st_index_map' rfl rfl hx (by omega) rfl ?_ | refine st_len_rd rfl ?_ | (refine st_append (m := 1) rv_ ir_ rfl rfl (by omega) ?_; intro va hpa hra hka hria) | refine st_lit (cs := [AV.int _ _]) rfl rfl ?_ | refine st_mx rfl rfl rfl ?_ | refine st_conv rfl (by omega) (by omega) ?_) | (refine gx ?_; first | refine sx_seq ?_ | refine sx_ops rfl ?_ | refine sx_skip ?_ | refine sx_block ?_ | refine sx_cond_t rfl ?_) | refine sk_norm ?_ | refine bk_norm ?_
     have hS2 := hS.upd 4 (cRow va 1 (j + 1) (xs.map (.int .i64) ++ [.int .i64 (max (x.tmod (1 + k % 9)) (-1))])) rfl hra hka hria
     refine lk_next hj2 ⟨a + 1, va, xs ++ [(max (x.tmod (1 + k % 9)) (-1))], by simp [hxl], by omega, fun y hy => ?_, ?_, hh_⟩
     ·rcases List.mem_append.1 hy with hy | hy
      ·exact hxs y hy
      ·simp only [List.mem_singleton] at hy; subst hy
       unfold In; omega
     ·rw [List.map_append]
      exact hS2
    ·repeat' first | refine st_nil ?_ | (refine gw ?_; first | (refine gq0 ?_; first | refine st_mv (v := AV.int _ _) rfl ?_ | refine st_mv (v := AV.rd _ _ _) rfl ?_ | refine st_mv rv_ ?_) | refine st_load_p rfl hg_ (by simp) b_ pv_ ?_ | (refine gq3 ?_; first | refine st_add rfl rfl rfl (by omega) (by omega) ?_ | (refine st_lss rfl rfl rfl ?_ ?_ <;> (intro hc; try (exfalso; omega))) | (refine st_gtr rfl rfl rfl ?_ ?_ <;> (intro hc; try (exfalso; omega)))) | refine st_field_p rfl (Nat.zero_add _) ?_ | refine st_len_rd rfl ?_ | (refine st_append (m := 1) rv_ ir_ rfl rfl (by omega) ?_; intro va hpa hra hka hria) | refine st_lit (cs := [AV.int _ _]) rfl rfl ?_) | (refine gx ?_; first | refine sx_seq ?_ | refine sx_ops rfl ?_ | refine sx_skip ?_ | refine sx_block ?_ | refine sx_cond_t rfl ?_ | refine sx_cond_f rfl ?_) | refine sk_norm ?_ | refine bk_norm ?_
     have hS2 := hS.upd 4 (cRow va 1 (j + 1) (xs.map (.int .i64) ++ [.int .i64 0])) rfl hra hka hria
     refine lk_next hj2 ⟨a + 1, va, xs ++ [0], by simp [hxl], by omega, fun y hy => ?_, ?_, hh_⟩
     ·rcases List.mem_append.1 hy with hy | hy
      ·exact hxs y hy
      ·simp only [List.mem_singleton] at hy; subst hy
       unfold In; omega
     ·rw [List.map_append]
      exact hS2
   ·have hxl2 : xs.length = P.l.length := by omega
    have hj3 : j = P.l.length := by omega
    subst hj3
    by_cases hti : i < tags.l.length
    ·obtain ⟨tg, htg⟩ := ex_get hti
     have htr := hm.ts tg (List.mem_of_getElem? htg)
     have htm := Int.tmod_lt_of_pos tg (show (0 : Int) < 4 by omega)
     repeat' first | refine st_nil ?_ | (refine gw ?_; first | (refine gq0 ?_; first | refine st_mv (v := AV.int _ _) rfl ?_ | refine st_mv (v := AV.rd _ _ _) rfl ?_) | (refine gq2 ?_; first | refine st_load_r rfl b_ pv_ ?_ | refine st_load_p rfl hg_ (by simp) b_ pv_ ?_) | (refine gq3 ?_; first | (refine st_lss rfl rfl rfl ?_ ?_ <;> (intro hc; try (exfalso; omega))) | refine st_remt rfl rfl rfl (by omega) ?_) | refine st_field_p rfl (Nat.zero_add _) ?_ | refine st_index_map' rfl rfl htg (by omega) rfl ?_ | refine st_len_rd rfl ?_ | refine st_mx rfl rfl rfl ?_ | refine st_conv rfl (by omega) (by omega) ?_) | (refine gx ?_; first | refine sx_seq ?_ | refine sx_ops rfl ?_ | refine sx_exit ?_ | refine sx_cond_t rfl ?_ | refine sx_cond_f rfl ?_) | refine sk_norm ?_ | refine sk_exit ?_ | refine bk_exit ?_ | refine lk_exit ?_
     refine sx_freeze 15 (v := vr) rfl rfl hrr ?_
     intro h3 hk3
     have hS2 := hS.drop 4 (h' := h3) rfl hk3
     clear hS h11 h8 hrr hk3
     have h11 : h3.get i11 = some (.cells 0 [P.mv Rw.sv, vn, vt]) := hS2.get (i := 1) rfl
     have hrn2 : IsRow h3 vn 1 i _ := hS2.get (i := 2) rfl
     repeat' first | (refine gw ?_; first | refine st_mv (v := AV.rd _ _ _) rfl ?_ | refine st_load_p rfl hg_ (by simp) b_ pv_ ?_ | refine st_field_p rfl (Nat.zero_add _) ?_ | (refine st_append (m := 1) rv_ ir_ rfl rfl (by omega) ?_; intro va hpa hra hka hria) | refine st_lit (cs := [AV.rd _ _ _]) rfl rfl ?_)
     have hS3 := hS2.upd 2 (cRow va 1 (i + 1) (rows.map rowI ++ [.rd P.l.length (xs.map (.int .i64)) false])) rfl hra hka hria
     have h11b : hpa.get i11 = some (.cells 0 [P.mv Rw.sv, vn, vt]) := hS3.get (i := 1) rfl
     refine st_store_row (v := va) (cs' := [P.mv Rw.sv, va, vt]) rfl rfl hra h11b (by simp) rfl ?_
     have hS4 := hS3.put 1 (.cells 0 [P.mv Rw.sv, va, vt]) rfl
     have h11c : (hpa.set i11 (.cells 0 [P.mv Rw.sv, va, vt])).get i11 = some (.cells 0 [P.mv Rw.sv, va, vt]) := hS4.get (i := 1) rfl
     have hrt4 : IsRow (hpa.set i11 (.cells 0 [P.mv Rw.sv, va, vt])) vt 1 i _ := hS4.get (i := 3) rfl
     have hnn2 := hra.notTup
     clear hS2 hS3 h11 h11b hrn2 hra hka hria
     obtain ⟨vn2, rfl⟩ : ∃ x, x = va := ⟨_, rfl⟩
     repeat' first | refine st_nil ?_ | (refine gw ?_; first | refine st_mv (v := AV.int _ _) rfl ?_ | refine st_load_p rfl hg_ (by simp) b_ pv_ ?_ | refine st_field_p rfl (Nat.zero_add _) ?_ | (refine st_append (m := 1) rv_ ir_ rfl rfl (by omega) ?_; intro va hpa hra hka hria) | refine st_lit (cs := [AV.int _ _]) rfl rfl ?_) | refine sx_ops rfl ?_ | refine sk_norm ?_
     have hS5 := hS4.upd 3 (cRow va 1 (i + 1) (ts.map (.int .i64) ++ [.int .i64 (max (tg.tmod 4) (-1))])) rfl hra hka hria
     have h11d : hpa.get i11 = some (.cells 0 [P.mv Rw.sv, vn2, vt]) := hS5.get (i := 1) rfl
     refine st_store_row (v := va) (cs' := [P.mv Rw.sv, vn2, va]) rfl rfl hra h11d (by simp) rfl ?_
     have hS6 := hS5.put 1 (.cells 0 [P.mv Rw.sv, vn2, va]) rfl
     repeat' first | refine st_nil ?_ | (refine gw ?_; first | refine st_mv (v := AV.int _ _) rfl ?_ | refine st_add rfl rfl rfl (by omega) (by omega) ?_) | refine sx_ops rfl ?_ | refine sk_norm ?_ | refine bk_norm ?_
     refine lk_next hi2 ⟨a, vn2, va, rows ++ [xs], ts ++ [(max (tg.tmod 4) (-1))], by simp [hrl], by simp [htsl], by omega, fun r hr => ?_, fun t ht => ?_, ?_, hh_⟩
     ·rcases List.mem_append.1 hr with hr | hr
      ·exact hrows r hr
      ·simp at hr; subst hr; exact ⟨by omega, hxs⟩
     ·rcases List.mem_append.1 ht with ht | ht
      ·exact hts t ht
      ·simp only [List.mem_singleton] at ht; subst ht; omega
     ·rw [List.map_append, List.map_append, List.map_singleton, List.map_singleton, show rowI xs = .rd P.l.length (xs.map (.int .i64)) false by rw [← hxl2]]
      exact hS6
    ·repeat' first | refine st_nil ?_ | (refine gw ?_; first | (refine gq0 ?_; first | refine st_mv (v := AV.int _ _) rfl ?_ | refine st_mv (v := AV.rd _ _ _) rfl ?_) | refine st_load_p rfl hg_ (by simp) b_ pv_ ?_ | (refine st_lss rfl rfl rfl ?_ ?_ <;> (intro hc; try (exfalso; omega))) | refine st_field_p rfl (Nat.zero_add _) ?_ | refine st_len_rd rfl ?_) | (refine gx ?_; first | refine sx_seq ?_ | refine sx_ops rfl ?_ | refine sx_skip ?_ | refine sx_exit ?_ | refine sx_cond_f rfl ?_) | refine sk_norm ?_ | refine sk_exit ?_ | refine bk_exit ?_ | refine lk_exit ?_
     refine sx_freeze 15 (v := vr) rfl rfl hrr ?_
     intro h3 hk3
     have hS2 := hS.drop 4 (h' := h3) rfl hk3
     clear hS h11 h8 hrr hk3
     have h11 : h3.get i11 = some (.cells 0 [P.mv Rw.sv, vn, vt]) := hS2.get (i := 1) rfl
     have hrn2 : IsRow h3 vn 1 i _ := hS2.get (i := 2) rfl
     repeat' first | (refine gw ?_; first | refine st_mv (v := AV.rd _ _ _) rfl ?_ | refine st_load_p rfl hg_ (by simp) b_ pv_ ?_ | refine st_field_p rfl (Nat.zero_add _) ?_ | (refine st_append (m := 1) rv_ ir_ rfl rfl (by omega) ?_; intro va hpa hra hka hria) | refine st_lit (cs := [AV.rd _ _ _]) rfl rfl ?_)
     have hS3 := hS2.upd 2 (cRow va 1 (i + 1) (rows.map rowI ++ [.rd P.l.length (xs.map (.int .i64)) false])) rfl hra hka hria
     have h11b : hpa.get i11 = some (.cells 0 [P.mv Rw.sv, vn, vt]) := hS3.get (i := 1) rfl
     refine st_store_row (v := va) (cs' := [P.mv Rw.sv, va, vt]) rfl rfl hra h11b (by simp) rfl ?_
     have hS4 := hS3.put 1 (.cells 0 [P.mv Rw.sv, va, vt]) rfl
     have h11c : (hpa.set i11 (.cells 0 [P.mv Rw.sv, va, vt])).get i11 = some (.cells 0 [P.mv Rw.sv, va, vt]) := hS4.get (i := 1) rfl
     have hrt4 : IsRow (hpa.set i11 (.cells 0 [P.mv Rw.sv, va, vt])) vt 1 i _ := hS4.get (i := 3) rfl
     have hnn2 := hra.notTup
     clear hS2 hS3 h11 h11b hrn2 hra hka hria
     obtain ⟨vn2, rfl⟩ : ∃ x, x = va := ⟨_, rfl⟩
     repeat' first | refine st_nil ?_ | (refine gw ?_; first | refine st_mv (v := AV.int _ _) rfl ?_ | refine st_load_p rfl hg_ (by simp) b_ pv_ ?_ | refine st_field_p rfl (Nat.zero_add _) ?_ | (refine st_append (m := 1) rv_ ir_ rfl rfl (by omega) ?_; intro va hpa hra hka hria) | refine st_lit (cs := [AV.int _ _]) rfl rfl ?_) | refine sx_ops rfl ?_ | refine sk_norm ?_
     have hS5 := hS4.upd 3 (cRow va 1 (i + 1) (ts.map (.int .i64) ++ [.int .i64 (-1)])) rfl hra hka hria
     have h11d : hpa.get i11 = some (.cells 0 [P.mv Rw.sv, vn2, vt]) := hS5.get (i := 1) rfl
     refine st_store_row (v := va) (cs' := [P.mv Rw.sv, vn2, va]) rfl rfl hra h11d (by simp) rfl ?_
     have hS6 := hS5.put 1 (.cells 0 [P.mv Rw.sv, vn2, va]) rfl
     repeat' first | refine st_nil ?_ | (refine gw ?_; first | refine st_mv (v := AV.int _ _) rfl ?_ | refine st_add rfl rfl rfl (by omega) (by omega) ?_) | refine sx_ops rfl ?_ | refine sk_norm ?_ | refine bk_norm ?_
     refine lk_next hi2 ⟨a, vn2, va, rows ++ [xs], ts ++ [(-1)], by simp [hrl], by simp [htsl], by omega, fun r hr => ?_, fun t ht => ?_, ?_, hh_⟩
     ·rcases List.mem_append.1 hr with hr | hr
      ·exact hrows r hr
      ·simp at hr; subst hr; exact ⟨by omega, hxs⟩
     ·rcases List.mem_append.1 ht with ht | ht
      ·exact hts t ht
      ·simp only [List.mem_singleton] at ht; subst ht; omega
     ·rw [List.map_append, List.map_append, List.map_singleton, List.map_singleton, show rowI xs = .rd P.l.length (xs.map (.int .i64)) false by rw [← hxl2]]
      exact hS6
  ·have hi3 : i = (1 + k % 9).toNat := by omega
   repeat' first | refine st_nil ?_ | (refine gw ?_; first | refine st_mv (v := AV.int _ _) rfl ?_ | refine st_load_p rfl hg_ (by simp) b_ pv_ ?_ | (refine st_lss rfl rfl rfl ?_ ?_ <;> (intro hc; try (exfalso; omega))) | refine st_store_p (v := AV.agg _) rfl rfl hg_ rfl rfl b_ sv_ ?_) | (refine gx ?_; first | refine sx_seq ?_ | refine sx_ops rfl ?_ | refine sx_ret ?_ | refine sx_exit ?_ | refine sx_cond_f rfl ?_) | refine sk_norm ?_ | refine sk_exit ?_ | refine bk_exit ?_ | refine lk_exit ?_
   have f1 := (hrn.set_ne (id := i8) (o := .cells 0 [P.mv Rw.sv, vn, vt]) fun e => hS.disj (i := 0) (j := 2) rfl rfl (by decide) i8 rfl e).fz (fun k => vn.rowId = some k ∨ vt.rowId = some k) (fun _ h => .inl h) (FzL.same _)
   have f2 := (hrt.set_ne (id := i8) (o := .cells 0 [P.mv Rw.sv, vn, vt]) fun e => hS.disj (i := 0) (j := 3) rfl rfl (by decide) i8 rfl e).fz (fun k => vn.rowId = some k ∨ vt.rowId = some k) (fun _ h => .inr h) (FzL.same _)
   refine fin_ret_fz (fun k => vn.rowId = some k ∨ vt.rowId = some k) (res_cell rfl (Heap.get_set_self _ _ _) rfl) (.agg (.cons (.same _) (.cons f1 (.cons f2 .nil)))) ?_
   have hok : (Dfa.mk P ⟨rows.map fun r => ⟨r, false⟩, false⟩ ⟨ts, false⟩).plain.Ok := made_ok hat (by omega) (by omega) (by omega) (by omega) (fun r hr => by have := hrows r hr; rw [htsl, hi3]; exact this) (fun t ht => (hts t ht).1)
   refine ⟨_, ⟨hok, wide_of hok ?_, fun t ht => hts t ht⟩, ?_⟩
   ·have : catL (Dfa.mk P ⟨rows.map fun r => ⟨r, false⟩, false⟩ ⟨ts, false⟩).plain.parts = catS P.l := (catS_plain P.l).symm
    rw [this]; omega
   ·simp only [Dfa.av, Rw.mv, Rw.iv, Rw.av, List.map_map, List.length_map, hrl, htsl]
    rfl
end Go.Proofs.YtdldfflfbfpngaaGreatDoor
set_option linter.unusedVariables false
set_option linter.unusedSimpArgs false
namespace Go.Proofs.YtdldfflfbfpngaaGreatDoor
open Go
set_option maxHeartbeats 4000000
attribute [local irreducible] wops xcode wcode seqK blockK loopK finK wcall wop wstp Runs
@[simp] theorem frz_u16r (l : List (Rw Int)) : AV.frozenL (l.map u16row) = true := frozenL_map (fun r => by simp [AV.frozen]) l
theorem frz_make (c : Rw (Rw Int)) (k : Int) (next tags : Rw Int) : AV.frozenL [c.mv u16row, .int .u8 k, i8row next, i8row tags] = true := by
 simp [AV.frozenL, AV.frozen]
theorem make_call {Φ : Lib} (L : LibC3 Φ) (L2 : C2Lib Φ) {c : Rw (Rw Int)} {k : Int} {next tags : Rw Int} (hm : MakeIn c k next tags) {m : Nat} {h : Heap} {Q : AV → Heap → Prop} (kk : ∀ d : Dfa, Made d → Q (.agg d.av) h) : wcall (Runs Φ) m 156 [c.mv u16row, .int .u8 k, i8row next, i8row tags] h Q := by
 refine call_ex (make11_ok L L2 c k next tags hm) (frz_make _ _ _ _) ?_ ?_
 ·rintro _ ⟨d, _, rfl⟩
  simp [AV.frozen]
 ·rintro _ ⟨d, hd, rfl⟩
  exact kk d hd
end Go.Proofs.YtdldfflfbfpngaaGreatDoor
