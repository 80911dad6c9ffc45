/- The statements: names. The statements: names, walked. -/
import Derived.Test.YtpcbpgepjfenhaaDoorF4
set_option linter.unusedVariables false
set_option linter.unusedSimpArgs false
set_option linter.unusedSectionVars false
namespace Go.Proofs.YtpcbpgepjfenhaaDoor
open Go
attribute [local irreducible] wops xcode wcode seqK blockK loopK finK wcall wop wstp Runs

/-! ### The plain law -/
def rowT (d : PD) (x y : Int) (i : Nat) : List Int := (d.row (turnP i x y)).map fun z => turnP z x y
def turnD (d : PD) (x y : Int) : PD := ⟨d.parts, (List.range d.n).map (rowT d x y), (List.range d.n).map fun i : Nat => d.tag (turnP i x y)⟩
section
variable {d : PD} {x y : Int} (h : d.Ok) (hx : 1 ≤ x ∧ x < d.n) (hy : 1 ≤ y ∧ y < d.n)
include h hx hy
theorem turn_in {s : Int} (hs : In d.n s) : In d.n (turnP s x y) := by
  unfold In at *
  unfold turnP
  split
  · omega
  · split <;> omega
omit h in
theorem turn_no : turnP (-1) x y = -1 := by
  unfold turnP
  rw [if_neg (by omega), if_neg (by omega)]
omit h hx hy in
theorem turn_inv (s : Int) : turnP (turnP s x y) x y = s := by
  unfold turnP
  split <;> split <;> (try split) <;> (try split) <;> omega
theorem turnD_row {s : Int} (hs : In d.n s) : (turnD d x y).row s = (d.row (turnP s x y)).map fun z => turnP z x y := by
  unfold In at hs
  have h1 : s.toNat < d.n := by omega
  have h2 : ((s.toNat : Nat) : Int) = s := by omega
  simp [PD.row, turnD, List.getD_eq_getElem?_getD, h1, rowT, h2]
theorem turnD_named : Named (fun s => turnP s x y) d (turnD d x y) := by
  refine ⟨rfl, by simp [turnD, PD.n], ?_, turn_no hx hy, fun s hs => turn_in h hx hy hs, turn_inv, fun s hs k => ?_, fun s hs => ?_⟩
  · show turnP 0 x y = 0
    unfold turnP
    rw [if_neg (by omega), if_neg (by omega)]
  · unfold col
    rw [turnD_row h hx hy hs]
    by_cases hk : k < (d.row (turnP s x y)).length
    · simp [List.getD_eq_getElem?_getD, hk]
    · simp [List.getD_eq_getElem?_getD, hk]
      exact (turn_no hx hy).symm
  · unfold In at hs
    have h1 : s.toNat < d.n := by omega
    have h2 : ((s.toNat : Nat) : Int) = s := by omega
    simp [PD.tag, turnD, List.getD_eq_getElem?_getD, h1, h2]
theorem turnD_ok : (turnD d x y).Ok := by
  have hT := h.tab
  refine ⟨h.p1, by simpa [turnD, PD.n] using h.n1, by simpa [turnD, PD.n] using h.n2, by simp [turnD, PD.n], h.norm, h.apart, fun r hr => ?_, fun t ht => ?_⟩
  · obtain ⟨i, hi, rfl⟩ := List.mem_map.1 hr
    rw [List.mem_range] at hi
    have hin : In d.n (turnP i x y) := turn_in h hx hy (by unfold In; omega)
    refine ⟨?_, fun z hz => ?_⟩
    · show (List.map _ _).length = _
      rw [List.length_map]
      exact hT.len _ hin
    · obtain ⟨w, hw, rfl⟩ := List.mem_map.1 hz
      have e : (turnD d x y).n = d.n := by simp [turnD, PD.n]
      rw [e]
      rcases hT.to _ hin w hw with rfl | h1
      · exact .inl (turn_no hx hy)
      · exact .inr (turn_in h hx hy h1)
  · obtain ⟨i, hi, rfl⟩ := List.mem_map.1 ht
    rw [List.mem_range] at hi
    have hin : In d.n (turnP i x y) := turn_in h hx hy (by unfold In; omega)
    have h0 : 0 ≤ turnP i x y ∧ turnP i x y < (d.tags.length : Int) := hin
    have h1 : (turnP i x y).toNat < d.tags.length := by omega
    refine h.tags _ ?_
    unfold PD.tag
    rw [List.getD_eq_getElem?_getD, List.getElem?_eq_getElem h1]
    exact List.getElem_mem _
end

end Go.Proofs.YtpcbpgepjfenhaaDoor
set_option linter.unusedVariables false
set_option linter.unusedSimpArgs false
namespace Go.Proofs.YtpcbpgepjfenhaaDoor
open Go
set_option maxHeartbeats 4000000
theorem sx_freezeC {Φ : Lib} {Z : Option Nat → Bool} {l : List DOper} {K : Ex → Env → Heap → Prop} {env : Env} {h : Heap} (t : Nat) {id : Nat} {cs cs' : List AV} (S : Nat → Prop) (hz : Z (firstDst l) = true) (ht : env t = .ptr id 0 0) (hg : h.get id = some (.cells 0 cs)) (hS : S id) (hc : FzL h S cs cs')
    (k : ∀ h', (∀ j, ¬ S j → h'.get j = h.get j) → wops (Runs Φ) l (K .norm) (env.put t (.rp cs')) h') : xcode (Runs Φ) Z (.ops l) K env h := by
  rw [xcode_ops, if_pos hz]
  refine .inr ⟨S, env.put t (.rp cs'), fun i => ?_, k _ fun j hj => ?_⟩
  · by_cases hi : i = t
    · subst hi
      rw [ht, Env.put_apply, if_pos rfl]
      exact .ptr hS hg (Nat.zero_le _) (by simpa using hc)
    · rw [Env.put_apply, if_neg hi]
      exact .same _
  · simp only [Heap.drop]
    rw [if_neg hj]
theorem turn_dfa (d : Dfa) (X Y : Int) : ∃ e : Dfa, e.av = [d.parts.mv Rw.sv, .rd d.tags.l.length (((List.range d.tags.l.length).map (rowT d.plain X Y)).map rowI) false, .rd d.tags.l.length (((List.range d.tags.l.length).map fun j : Nat => d.plain.tag (turnP j X Y)).map (.int .i64)) false] ∧ e.plain = turnD d.plain X Y := by
  refine ⟨⟨d.parts, ⟨((List.range d.tags.l.length).map (rowT d.plain X Y)).map fun r => ⟨r, false⟩, false⟩, ⟨(List.range d.tags.l.length).map fun j : Nat => d.plain.tag (turnP j X Y), false⟩⟩, ?_, ?_⟩
  · simp only [Dfa.av, Rw.mv, Rw.iv, Rw.av, List.map_map, List.length_map, List.length_range]
    rfl
  · rw [PD.ext'_iff]
    refine ⟨rfl, ?_, rfl⟩
    show plainI (((List.range d.tags.l.length).map (rowT d.plain X Y)).map fun r => Rw.mk r false) = (List.range d.plain.n).map (rowT d.plain X Y)
    unfold plainI
    rw [List.map_map]
    exact List.map_id _
attribute [local irreducible] wops xcode wcode seqK blockK loopK finK wcall wop wstp Runs

set_option maxRecDepth 100000 in
theorem names_ok {Φ : Lib} (L : LibC3 Φ) (L1 : C1Lib Φ) (L2 : C2Lib Φ) (S : SortLib Φ) (G : GrowLib Φ) (J : JoinLib Φ) (c : Rw (Rw Int)) (k : Int) (next tags : Rw Int) (hm : MakeIn c k next tags) (a b : Int) (ha : 0 ≤ a ∧ a ≤ 255) (hb : 0 ≤ b ∧ b ≤ 255) : Pure Φ 155 [c.mv u16row, .int .u8 k, i8row next, i8row tags, .int .u8 a, .int .u8 b] (.bool true) := by
  have hkn := known11_ok L L1 S G J
  obtain ⟨ha1, ha2⟩ := ha
  obtain ⟨hb1, hb2⟩ := hb
  refine runs_of (fun o => o == some 84 || o == some 109) rfl L.f155 ?_
  repeat' first | refine st_nil ?_ | (show wops _ _ _ _ _; first | refine st_mv (v := AV.int _ _) rfl ?_ | refine st_mv (v := AV.bool _) rfl ?_ | refine st_mv (v := AV.rd _ _ _) rfl ?_ | refine st_call rfl nt_ ?_) | (show xcode _ _ _ _ _ _; first | refine sx_seq ?_ | refine sx_ops rfl ?_) | refine sk_norm ?_
  refine make_call L L2 hm ?_
  intro d hd
  have hpl : d.plain.p = d.parts.l.length := by simp [Dfa.plain, plainS, PD.p]
  have hp2 := hd.ok.p1
  have htab := hd.ok.tab
  have hn2 := hd.ok.n2
  have hn2 : d.tags.l.length ≤ 2000 := hn2
  have hrl : d.next.l.length = d.tags.l.length := by
    have := hd.ok.nl
    simpa [Dfa.plain, plainI] using this
  by_cases hn3 : d.tags.l.length < 3
  · repeat' first | refine st_nil ?_ | (show wops _ _ _ _ _; first | refine st_mv (v := AV.int _ _) rfl ?_ | refine st_mv (v := AV.bool _) rfl ?_ | refine st_skipg rfl ?_ | refine st_load_p rfl hg_ (by simp) (by first | (simp; done) | (simp; omega)) pv_ ?_ | (refine st_lss rfl rfl rfl ?_ ?_ <;> (intro hc; try (exfalso; omega))) | refine st_field_p rfl (Nat.zero_add _) ?_ | refine st_len_rd rfl ?_ | refine st_pick_t (v := AV.bool _) rfl rfl ?_ | refine st_call rfl nt_ ?_ | (refine st_alloc ?_; intro id hid; try simp only [Heap.set_none] at hid) | refine st_store_s (cs' := [AV.rd _ _ _, AV.rd _ _ _, AV.rd _ _ _]) rfl rfl rfl rfl (by first | (simp; done) | (simp; omega)) rfl ?_) | (show xcode _ _ _ _ _ _; first | refine sx_seq ?_ | refine sx_ops rfl ?_ | refine sx_ret ?_ | refine sx_cond_t rfl ?_) | refine sk_norm ?_ | refine sk_ret ?_ | refine call_pure (by assumption) fz_ fz_ ?_
    all_goals exact fin_ret (v := .bool true) rfl rfl
  have hx1 := Int.emod_nonneg a (show (d.tags.l.length : Int) - 1 ≠ 0 by omega)
  have hx2 := Int.emod_lt_of_pos a (show 0 < (d.tags.l.length : Int) - 1 by omega)
  have hy1 := Int.emod_nonneg b (show (d.tags.l.length : Int) - 1 ≠ 0 by omega)
  have hy2 := Int.emod_lt_of_pos b (show 0 < (d.tags.l.length : Int) - 1 by omega)
  repeat' first | refine st_nil ?_ | (show wops _ _ _ _ _; first | refine st_mv (v := AV.int _ _) rfl ?_ | refine st_mv (v := AV.bool _) rfl ?_ | refine st_gog rfl ?_ | refine st_load_p rfl hg_ (by simp) (by first | (simp; done) | (simp; omega)) pv_ ?_ | refine st_add rfl rfl rfl (by omega) (by omega) ?_ | refine st_sub rfl rfl rfl (by omega) (by omega) ?_ | (refine st_lss rfl rfl rfl ?_ ?_ <;> (intro hc; try (exfalso; omega))) | refine st_rem rfl rfl rfl (by omega) (by omega) ?_ | refine st_field_p rfl (Nat.zero_add _) ?_ | refine st_len_rd rfl ?_ | refine st_pick_f (v := AV.bool _) rfl rfl ?_ | refine st_call rfl nt_ ?_ | (refine st_alloc ?_; intro id hid; try simp only [Heap.set_none] at hid) | refine st_store_s (cs' := [AV.rd _ _ _, AV.rd _ _ _, AV.rd _ _ _]) rfl rfl rfl rfl (by first | (simp; done) | (simp; omega)) rfl ?_ | refine st_build (cs := [AV.rd _ _ _, AV.rd _ _ _, AV.rd _ _ _]) rfl ?_ | refine st_not (b := true) rfl ?_ | refine st_conv rfl (by omega) (by omega) ?_) | (show xcode _ _ _ _ _ _; first | refine sx_seq ?_ | refine sx_ops rfl ?_ | refine sx_skip ?_ | refine sx_block ?_ | refine sx_cond_f rfl ?_) | refine sk_norm ?_ | refine call_pure (by assumption) fz_ fz_ ?_
  rename_i i13 hi13
  obtain ⟨i17, rfl⟩ : ∃ x, x = id := ⟨_, rfl⟩
  have hi17 := hid
  generalize hX : 1 + a % ((d.tags.l.length : Int) - 1) = X at *
  generalize hY : 1 + b % ((d.tags.l.length : Int) - 1) = Y at *
  have hXb : 1 ≤ X ∧ X < d.plain.n := by show 1 ≤ X ∧ X < (d.tags.l.length : Int); omega
  have hYb : 1 ≤ Y ∧ Y < d.plain.n := by show 1 ≤ Y ∧ Y < (d.tags.l.length : Int); omega
  have hS0 := ((((Sep.old Heap.empty).new (o := .cells 0 d.av) hi13).new (id := i17) (o := .cells 0 [d.parts.mv Rw.sv, .rd 0 [] true, .rd 0 [] true]) (by rw [Heap.get_set_ne _ _ hi17.1]; exact hi17.2)).nil 1).nil 1
  refine sx_for d.tags.l.length (fun i env h' => ∃ vn vt, Sep h' [cOld Heap.empty, cCell i13 (.cells 0 d.av), cCell i17 (.cells 0 [d.parts.mv Rw.sv, vn, vt]), cRow vn 1 i (((List.range i).map (rowT d.plain X Y)).map rowI), cRow vt 1 i (((List.range i).map fun j : Nat => d.plain.tag (turnP j X Y)).map (.int .i64))] ∧ env.has [(13, .ptr i13 0 0), (14, .int .i64 d.tags.l.length), (15, .int .i64 X), (16, .int .i64 Y), (17, .ptr i17 0 0), (18, .int .i64 i)]) ⟨_, _, hS0, hh_⟩ ?_
  clear hS0
  rintro i env h' hi ⟨vn, vt, hS, he⟩
  have h13 : h'.get i13 = some (.cells 0 d.av) := hS.get (i := 1) rfl
  have h17 : h'.get i17 = some (.cells 0 [d.parts.mv Rw.sv, vn, vt]) := hS.get (i := 2) rfl
  have hrn : IsRow h' vn 1 i _ := hS.get (i := 3) rfl
  have hrt : IsRow h' vt 1 i _ := hS.get (i := 4) rfl
  have hnn := hrn.notTup
  have hnt := hrt.notTup
  obtain ⟨env, rfl⟩ := he.ex
  clear he
  by_cases hi2 : i < d.tags.l.length
  · have hin : In d.plain.n (turnP i X Y) := turn_in hd.ok hXb hYb (show 0 ≤ (i : Int) ∧ (i : Int) < (d.tags.l.length : Int) by omega)
    have hin2 : 0 ≤ turnP i X Y ∧ turnP i X Y < (d.tags.l.length : Int) := hin
    have k1 := turnI_ok L i X Y
    have hrT : rowT d.plain X Y i = (d.plain.row (turnP i X Y)).map fun z => turnP z X Y := rfl
    obtain ⟨q, hq⟩ : ∃ q : Nat, turnP i X Y = q := ⟨(turnP i X Y).toNat, by omega⟩
    have hqn : q < d.tags.l.length := by omega
    obtain ⟨r, hr⟩ := ex_get (l := d.next.l) (i := q) (by omega)
    obtain ⟨t, ht⟩ := ex_get hqn
    have hrow : d.plain.row (turnP i X Y) = r.l := by rw [hq]; simp [PD.row, Dfa.plain, plainI, List.getD_eq_getElem?_getD, hr]
    have htag : d.plain.tag (turnP i X Y) = t := by rw [hq]; simp [PD.tag, Dfa.plain, List.getD_eq_getElem?_getD, ht]
    have hrlen : r.l.length = d.parts.l.length := by rw [← hrow, ← hpl]; exact htab.len _ hin
    rw [hrow] at hrT
    rw [hq] at k1
    repeat' first | refine st_nil ?_ | (show wops _ _ _ _ _; first | refine st_mv (v := AV.int _ _) rfl ?_ | refine st_mv (v := AV.rd _ _ _) rfl ?_ | (refine st_lss rfl rfl rfl ?_ ?_ <;> (intro hc; try (exfalso; omega)))) | (show xcode _ _ _ _ _ _; first | refine sx_seq ?_ | refine sx_ops rfl ?_ | refine sx_skip ?_ | refine sx_block ?_ | refine sx_cond_t rfl ?_) | refine sk_norm ?_
    refine sx_for d.parts.l.length (fun j env h' => ∃ vr, Sep h' [cOld Heap.empty, cCell i13 (.cells 0 d.av), cCell i17 (.cells 0 [d.parts.mv Rw.sv, vn, vt]), cRow vn 1 i (((List.range i).map (rowT d.plain X Y)).map rowI), cRow vt 1 i (((List.range i).map fun j : Nat => d.plain.tag (turnP j X Y)).map (.int .i64)), cRow vr 1 j (((r.l.take j).map fun z => turnP z X Y).map (.int .i64))] ∧ env.has [(13, .ptr i13 0 0), (14, .int .i64 d.tags.l.length), (15, .int .i64 X), (16, .int .i64 Y), (17, .ptr i17 0 0), (18, .int .i64 i), (19, vr), (20, .int .i64 j)]) ⟨_, hS.nil 1, hh_⟩ ?_
    clear hS h13 h17 hrn hrt
    rintro j env h' hj ⟨vr, hS, he⟩
    have h13 : h'.get i13 = some (.cells 0 d.av) := hS.get (i := 1) rfl
    have h17 : h'.get i17 = some (.cells 0 [d.parts.mv Rw.sv, vn, vt]) := hS.get (i := 2) rfl
    have hrr : IsRow h' vr 1 j _ := hS.get (i := 5) rfl
    obtain ⟨env, rfl⟩ := he.ex
    clear he
    by_cases hj2 : j < d.parts.l.length
    · obtain ⟨z, hz⟩ := ex_get (l := r.l) (i := j) (by omega)
      have k2 := turnI_ok L z X Y
      repeat' first | refine st_nil ?_ | (show wops _ _ _ _ _; first | refine st_mv (v := AV.int _ _) rfl ?_ | refine st_mv (by simp only [ev_tmp, Env.puts, Env.put_apply, reduceIte, Nat.reduceEqDiff]; exact rfl) ?_ | refine st_load_r rfl (by first | (simp; done) | (simp; omega)) pv_ ?_ | refine st_load_p rfl hg_ (by simp) (by first | (simp; done) | (simp; omega)) pv_ ?_ | refine st_add rfl rfl rfl (by omega) (by omega) ?_ | (refine st_lss rfl rfl rfl ?_ ?_ <;> (intro hc; try (exfalso; omega))) | refine st_field_p rfl (Nat.zero_add _) ?_ | refine st_index_map' rfl rfl hr (by omega) rfl ?_ | refine st_index_map' rfl rfl hz (by omega) rfl ?_ | refine st_len_rd rfl ?_ | refine st_call rfl nt_ ?_ | (refine st_append (m := 1) rv_ ir_ rfl rfl (by omega) ?_; intro va hpa hra hka hria) | refine st_lit (cs := [AV.int _ _]) rfl rfl ?_) | (show xcode _ _ _ _ _ _; first | refine sx_seq ?_ | refine sx_ops rfl ?_ | refine sx_skip ?_ | refine sx_block ?_ | refine sx_cond_t rfl ?_) | refine sk_norm ?_ | refine bk_norm ?_ | refine call_pure (by assumption) fz_ fz_ ?_
      have hS2 := hS.upd 5 (cRow va 1 (j + 1) (((r.l.take j).map fun z => turnP z X Y).map (.int .i64) ++ [.int .i64 (turnP z X Y)])) rfl hra hka hria
      refine lk_next hj2 ⟨va, ?_, hh_⟩
      rw [take_snoc hz, List.map_append, List.map_append]
      exact hS2
    · have hj3 : j = d.parts.l.length := by omega
      subst hj3
      rw [List.take_of_length_le (by omega)] at hrr hS
      have hsx : rowI (rowT d.plain X Y i) = .rd d.parts.l.length ((r.l.map fun z => turnP z X Y).map (.int .i64)) false := by rw [hrT, ← hrlen]; simp [rowI]
      repeat' first | refine st_nil ?_ | (show wops _ _ _ _ _; first | refine st_mv (v := AV.int _ _) rfl ?_ | refine st_load_p rfl hg_ (by simp) (by first | (simp; done) | (simp; omega)) pv_ ?_ | (refine st_lss rfl rfl rfl ?_ ?_ <;> (intro hc; try (exfalso; omega))) | refine st_field_p rfl (Nat.zero_add _) ?_ | refine st_len_rd rfl ?_) | (show xcode _ _ _ _ _ _; first | refine sx_seq ?_ | refine sx_ops rfl ?_ | refine sx_exit ?_ | refine sx_cond_f rfl ?_) | refine sk_norm ?_ | refine sk_exit ?_ | refine bk_exit ?_ | refine lk_exit ?_
      refine sx_freeze 19 (v := vr) rfl rfl hrr ?_
      intro h3 hk3
      have hS2 := hS.drop 5 (h' := h3) rfl hk3
      clear hS h13 h17 hrr hk3
      have h17 : h3.get i17 = some (.cells 0 [d.parts.mv Rw.sv, vn, vt]) := hS2.get (i := 2) rfl
      have hrn2 : IsRow h3 vn 1 i _ := hS2.get (i := 3) rfl
      repeat' first | (show wops _ _ _ _ _; first | refine st_mv (v := AV.rd _ _ _) rfl ?_ | refine st_load_p rfl hg_ (by simp) (by first | (simp; done) | (simp; omega)) pv_ ?_ | refine st_field_p rfl (Nat.zero_add _) ?_ | (refine st_append (m := 1) rv_ ir_ rfl rfl (by omega) ?_; intro va hpa hra hka hria) | refine st_lit (cs := [AV.rd _ _ _]) rfl rfl ?_)
      have hS3 := hS2.upd 3 (cRow va 1 (i + 1) (((List.range i).map (rowT d.plain X Y)).map rowI ++ [.rd d.parts.l.length ((r.l.map fun z => turnP z X Y).map (.int .i64)) false])) rfl hra hka hria
      have h17b : hpa.get i17 = some (.cells 0 [d.parts.mv Rw.sv, vn, vt]) := hS3.get (i := 2) rfl
      refine st_store_row (v := va) (cs' := [d.parts.mv Rw.sv, va, vt]) rfl rfl hra h17b (by simp) rfl ?_
      have hS4 := hS3.put 2 (.cells 0 [d.parts.mv Rw.sv, va, vt]) rfl
      have h13c : (hpa.set i17 (.cells 0 [d.parts.mv Rw.sv, va, vt])).get i13 = some (.cells 0 d.av) := hS4.get (i := 1) rfl
      have h17c : (hpa.set i17 (.cells 0 [d.parts.mv Rw.sv, va, vt])).get i17 = some (.cells 0 [d.parts.mv Rw.sv, va, vt]) := hS4.get (i := 2) rfl
      have hrt4 : IsRow (hpa.set i17 (.cells 0 [d.parts.mv Rw.sv, va, vt])) vt 1 i _ := hS4.get (i := 4) rfl
      have hnn2 := hra.notTup
      clear hS2 hS3 h17 h17b hrn2 hra hka hria
      obtain ⟨vn2, rfl⟩ : ∃ x, x = va := ⟨_, rfl⟩
      repeat' first | refine st_nil ?_ | (show wops _ _ _ _ _; first | refine st_mv (v := AV.int _ _) rfl ?_ | refine st_load_r rfl (by first | (simp; done) | (simp; omega)) pv_ ?_ | refine st_load_p rfl hg_ (by simp) (by first | (simp; done) | (simp; omega)) pv_ ?_ | refine st_field_p rfl (Nat.zero_add _) ?_ | refine st_index_map' rfl rfl ht (by omega) rfl ?_ | refine st_call rfl nt_ ?_ | (refine st_append (m := 1) rv_ ir_ rfl rfl (by omega) ?_; intro va hpa hra hka hria) | refine st_lit (cs := [AV.int _ _]) rfl rfl ?_) | (show xcode _ _ _ _ _ _; first | refine sx_ops rfl ?_) | refine sk_norm ?_ | refine call_pure (by assumption) fz_ fz_ ?_
      have hS5 := hS4.upd 4 (cRow va 1 (i + 1) (((List.range i).map fun j : Nat => d.plain.tag (turnP j X Y)).map (.int .i64) ++ [.int .i64 t])) rfl hra hka hria
      have h17d : hpa.get i17 = some (.cells 0 [d.parts.mv Rw.sv, vn2, vt]) := hS5.get (i := 2) rfl
      refine st_store_row (v := va) (cs' := [d.parts.mv Rw.sv, vn2, va]) rfl rfl hra h17d (by simp) rfl ?_
      have hS6 := hS5.put 2 (.cells 0 [d.parts.mv Rw.sv, vn2, va]) rfl
      repeat' first | refine st_nil ?_ | (show wops _ _ _ _ _; first | refine st_mv (v := AV.int _ _) rfl ?_ | refine st_add rfl rfl rfl (by omega) (by omega) ?_) | (show xcode _ _ _ _ _ _; first | refine sx_ops rfl ?_) | refine sk_norm ?_ | refine bk_norm ?_
      refine lk_next hi2 ⟨vn2, va, ?_, hh_⟩
      rw [List.range_succ, List.map_append, List.map_append, List.map_append, List.map_append, List.map_singleton, List.map_singleton, List.map_singleton, List.map_singleton, hsx, htag]
      exact hS6
  · have hi3 : i = d.tags.l.length := by omega
    subst hi3
    repeat' first | refine st_nil ?_ | (show wops _ _ _ _ _; first | refine st_mv (v := AV.int _ _) rfl ?_ | refine st_load_p rfl hg_ (by simp) (by first | (simp; done) | (simp; omega)) pv_ ?_ | (refine st_lss rfl rfl rfl ?_ ?_ <;> (intro hc; try (exfalso; omega))) | refine st_call rfl nt_ ?_) | (show xcode _ _ _ _ _ _; first | refine sx_seq ?_ | refine sx_ops rfl ?_ | refine sx_exit ?_ | refine sx_cond_f rfl ?_) | refine sk_norm ?_ | refine sk_exit ?_ | refine bk_exit ?_ | refine lk_exit ?_
    refine least_good L L1 S G J d hd.wide.fits hd.range hd.ok ?_
    intro x hx
    have hxm := hd.least hx
    repeat' first | refine st_nil ?_ | (show wops _ _ _ _ _; first | refine st_mv (v := AV.int _ _) rfl ?_ | refine st_mv (v := AV.tup _) rfl ?_ | (refine st_alloc ?_; intro id hid; try simp only [Heap.set_none] at hid) | refine st_store_s (cs' := [AV.rd _ _ _, AV.rd _ _ _, AV.rd _ _ _]) rfl rfl rfl rfl (by first | (simp; done) | (simp; omega)) rfl ?_ | refine st_extract rfl rfl ?_) | (show xcode _ _ _ _ _ _; first | refine sx_seq ?_) | refine sk_norm ?_
    obtain ⟨ix, rfl⟩ : ∃ x, x = id := ⟨_, rfl⟩
    have hS2 := hS.new (o := .cells 0 x.av) hid
    have hrn2 : IsRow _ vn 1 d.tags.l.length _ := hS2.get (i := 3) rfl
    have hrt2 : IsRow _ vt 1 d.tags.l.length _ := hS2.get (i := 4) rfl
    have f1 := hrn2.fz (fun k => k = i17 ∨ vn.rowId = some k ∨ vt.rowId = some k) (fun _ h => .inr (.inl h)) (FzL.same _)
    have f2 := hrt2.fz (fun k => k = i17 ∨ vn.rowId = some k ∨ vt.rowId = some k) (fun _ h => .inr (.inr h)) (FzL.same _)
    obtain ⟨e, hee, hep⟩ := turn_dfa d X Y
    have hem : Made e := by
      have hok : e.plain.Ok := by rw [hep]; exact turnD_ok hd.ok hXb hYb
      refine ⟨hok, wide_of hok ?_, fun t ht => ?_⟩
      · rw [hep]
        have := hd.wide.fits.cat
        rw [catS_plain] at this
        exact this
      · have h1 : t ∈ e.plain.tags := ht
        rw [hep] at h1
        obtain ⟨j, hj, rfl⟩ := List.mem_map.1 h1
        rw [List.mem_range] at hj
        have hin : In d.plain.n (turnP j X Y) := turn_in hd.ok hXb hYb (show 0 ≤ (j : Int) ∧ (j : Int) < (d.plain.n : Int) by omega)
        have h0 : 0 ≤ turnP j X Y ∧ turnP j X Y < (d.plain.tags.length : Int) := hin
        have h2 : (turnP j X Y).toNat < d.plain.tags.length := by omega
        refine hd.tags _ ?_
        show d.plain.tags.getD _ _ ∈ d.plain.tags
        rw [List.getD_eq_getElem?_getD, List.getElem?_eq_getElem h2]
        exact List.getElem_mem _
    refine sx_freezeC 17 (cs' := e.av) (fun k => k = i17 ∨ vn.rowId = some k ∨ vt.rowId = some k) rfl rfl (hS2.get (i := 2) rfl) (.inl rfl) (by rw [hee]; exact .cons (.same _) (.cons f1 (.cons f2 .nil))) ?_
    intro h3 hk3
    have hxd : h3.get ix = some (.cells 0 x.av) := (hk3 ix fun h => by
      rcases h with h | h | h
      · exact hS2.disj (i := 5) (j := 2) rfl rfl (by decide) ix rfl h
      · exact hS2.disj (i := 5) (j := 3) rfl rfl (by decide) ix rfl h
      · exact hS2.disj (i := 5) (j := 4) rfl rfl (by decide) ix rfl h).trans (hS2.get (i := 5) rfl)
    repeat' first | (show wops _ _ _ _ _; first | refine st_load_ra rfl (by first | rfl | (simp [*]; done) | fail) ?_ | refine st_call rfl nt_ ?_)
    refine least_good L L1 S G J e hem.wide.fits hem.range hem.ok ?_
    intro y hy
    have hym := hem.least hy
    have hxy : x.plain = y.plain := by
      rw [hep] at hy
      exact IsLeast.names (turnD_named hd.ok hXb hYb) hd.ok (turnD_ok hd.ok hXb hYb) hx hy
    have ks := rsame11_ok L L2 x y hxm.wide hym.wide
    rw [decB_t hxy] at ks
    repeat' first | refine st_nil ?_ | (show wops _ _ _ _ _; first | refine st_mv (v := AV.int _ _) rfl ?_ | refine st_mv (v := AV.bool _) rfl ?_ | refine st_mv (v := AV.tup _) rfl ?_ | refine st_gog rfl ?_ | refine st_load_p rfl hg_ (by simp) (by first | (simp; done) | (simp; omega)) pv_ ?_ | (refine st_eql rfl rfl rfl ?_ ?_ <;> (intro hc; try (exfalso; omega))) | refine st_pick_t (v := AV.bool _) rfl rfl ?_ | refine st_call rfl nt_ ?_ | (refine st_alloc ?_; intro id hid; try simp only [Heap.set_none] at hid) | refine st_store_s (cs' := [AV.rd _ _ _, AV.rd _ _ _, AV.rd _ _ _]) rfl rfl rfl rfl (by first | (simp; done) | (simp; omega)) rfl ?_ | refine st_extract rfl rfl ?_) | (show xcode _ _ _ _ _ _; first | refine sx_seq ?_ | refine sx_ops rfl ?_ | refine sx_ret ?_) | refine sk_norm ?_ | refine call_pure (by assumption) fz_ fz_ ?_
    all_goals exact fin_ret (v := .bool true) rfl rfl

end Go.Proofs.YtpcbpgepjfenhaaDoor
