/- The statements: tells. -/
import Derived.Test.YtpcbpgepjfenhaaDoorF4
set_option linter.unusedVariables false
set_option linter.unusedSimpArgs false
namespace Go.Proofs.YtpcbpgepjfenhaaDoor
open Go
set_option maxHeartbeats 4000000
attribute [local irreducible] wops xcode wcode seqK blockK loopK finK wcall wop wstp Runs

theorem tells_ok {Φ : Lib} (L : LibC3 Φ) (L1 : C1Lib Φ) (L2 : C2Lib Φ) (S : SortLib Φ) (G : GrowLib Φ) (J : JoinLib Φ) (c : Rw (Rw Int)) (k : Int) (next tags : Rw Int) (hm : MakeIn c k next tags) (r : Rw Int) (hrl : r.l.length ≤ 1048576) (hrx : ∀ x ∈ r.l, 0 ≤ x ∧ x ≤ 65535) : Pure Φ 152 [c.mv u16row, .int .u8 k, i8row next, i8row tags, u16row r] (.bool true) := by
  have hkn := known11_ok L L1 S G J
  refine runs_of (fun o => o == some 61) rfl L.f152 ?_
  by_cases h40 : 40 < r.l.length
  · repeat' first | refine st_nil ?_ | (show wops _ _ _ _ _; first | refine st_mv (v := AV.bool _) rfl ?_ | refine st_mv (v := AV.rd _ _ _) rfl ?_ | refine st_skipg rfl ?_ | (refine st_gtr rfl rfl rfl ?_ ?_ <;> (intro hc; try (exfalso; omega))) | refine st_len_rd rfl ?_ | refine st_pick_t (v := AV.bool _) rfl rfl ?_ | refine st_call rfl nt_ ?_) | (show xcode _ _ _ _ _ _; first | refine sx_seq ?_ | refine sx_ops rfl ?_ | refine sx_ret ?_ | refine sx_cond_t rfl ?_) | refine sk_norm ?_ | refine sk_ret ?_ | refine call_pure (by assumption) fz_ fz_ ?_
    all_goals exact fin_ret (v := .bool true) rfl rfl
  repeat' first | refine st_nil ?_ | (show wops _ _ _ _ _; first | refine st_mv (v := AV.int _ _) rfl ?_ | refine st_mv (v := AV.bool _) rfl ?_ | refine st_mv (v := AV.rd _ _ _) rfl ?_ | refine st_gog rfl ?_ | (refine st_gtr rfl rfl rfl ?_ ?_ <;> (intro hc; try (exfalso; omega))) | refine st_len_rd rfl ?_ | refine st_pick_f (v := AV.bool _) rfl rfl ?_ | refine st_call rfl nt_ ?_ | refine st_not (b := true) rfl ?_) | (show xcode _ _ _ _ _ _; first | refine sx_seq ?_ | refine sx_ops rfl ?_ | refine sx_skip ?_ | refine sx_cond_f rfl ?_) | refine sk_norm ?_ | refine call_pure (by assumption) fz_ fz_ ?_
  refine make_call L L2 hm ?_
  intro d hd
  repeat' first | refine st_nil ?_ | (show wops _ _ _ _ _; first | refine st_load_p rfl hg_ (by simp) (by first | (simp; done) | (simp; omega)) pv_ ?_ | refine st_call rfl nt_ ?_ | (refine st_alloc ?_; intro id hid; try simp only [Heap.set_none] at hid) | refine st_store_s (cs' := [AV.rd _ _ _, AV.rd _ _ _, AV.rd _ _ _]) rfl rfl rfl rfl (by first | (simp; done) | (simp; omega)) rfl ?_) | (show xcode _ _ _ _ _ _; first | refine sx_seq ?_ | refine sx_ops rfl ?_) | refine sk_norm ?_
  obtain ⟨ia, rfl⟩ : ∃ x, x = id := ⟨_, rfl⟩
  have hia := hid
  refine least_good L L1 S G J d hd.wide.fits hd.range hd.ok ?_
  intro x hx
  have hxm := hd.least hx
  have hsx := rsound11_ok L L2 x hxm.wide
  rw [soundD_t hxm.ok] at hsx
  repeat' first | refine st_nil ?_ | (show wops _ _ _ _ _; first | refine st_mv (v := AV.int _ _) rfl ?_ | refine st_mv (v := AV.bool _) rfl ?_ | refine st_mv (v := AV.rd _ _ _) rfl ?_ | refine st_mv (v := AV.tup _) rfl ?_ | refine st_gog rfl ?_ | refine st_load_p rfl hg_ (by simp) (by first | (simp; done) | (simp; omega)) pv_ ?_ | (refine st_neq rfl rfl rfl ?_ ?_ <;> (intro hc; try (exfalso; omega))) | refine st_pick_f (v := AV.bool _) rfl rfl ?_ | refine st_call rfl nt_ ?_ | (refine st_alloc ?_; intro id hid; try simp only [Heap.set_none] at hid) | refine st_store_s (cs' := [AV.rd _ _ _, AV.rd _ _ _, AV.rd _ _ _]) rfl rfl rfl rfl (by first | (simp; done) | (simp; omega)) rfl ?_ | refine st_not (b := true) rfl ?_ | refine st_extract rfl rfl ?_) | (show xcode _ _ _ _ _ _; first | refine sx_seq ?_ | refine sx_ops rfl ?_ | refine sx_skip ?_ | refine sx_block ?_ | refine sx_cond_f rfl ?_) | refine sk_norm ?_ | refine call_pure (by assumption) fz_ fz_ ?_
  obtain ⟨ib, rfl⟩ : ∃ x, x = id := ⟨_, rfl⟩
  have hS0 := (((Sep.old Heap.empty).new (o := .cells 0 d.av) hia).new (id := ib) (o := .cells 0 x.av) (by rw [Heap.get_set_ne _ _ hid.1]; exact hid.2)).nil 1
  refine sx_for r.l.length (fun i env h' => ∃ v, Sep h' [cOld Heap.empty, cCell ia (.cells 0 d.av), cCell ib (.cells 0 x.av), cRow v 1 i ((scalarsL (r.l.take i)).map (.int .i64))] ∧ env.has [(4, u16row r), (11, .ptr ia 0 0), (12, .ptr ib 0 0), (14, v), (15, .int .i64 i)]) ⟨_, hS0, hh_⟩ ?_
  clear hS0
  rintro i env h' hi ⟨v, hS, he⟩
  have ha : h'.get ia = some (.cells 0 d.av) := hS.get (i := 1) rfl
  have hb : h'.get ib = some (.cells 0 x.av) := hS.get (i := 2) rfl
  have hrow : IsRow h' v 1 i _ := hS.get (i := 3) rfl
  obtain ⟨env, rfl⟩ := he.ex
  clear he
  by_cases hi2 : i < r.l.length
  · obtain ⟨y, hy⟩ := ex_get hi2
    have hyx := hrx y (List.mem_of_getElem? hy)
    repeat' first | refine st_nil ?_ | (show wops _ _ _ _ _; first | refine st_mv (v := AV.int _ _) rfl ?_ | refine st_mv (v := AV.rd _ _ _) rfl ?_ | refine st_mv (by simp only [ev_tmp, Env.puts, Env.put_apply, reduceIte, Nat.reduceEqDiff]; exact rfl) ?_ | refine st_load_r rfl (by first | (simp; done) | (simp; omega)) pv_ ?_ | refine st_add rfl rfl rfl (by omega) (by omega) ?_ | (refine st_lss rfl rfl rfl ?_ ?_ <;> (intro hc; try (exfalso; omega))) | refine st_rem rfl rfl rfl (by omega) (by omega) ?_ | refine st_index_map' rfl rfl hy (by omega) rfl ?_ | refine st_len_rd rfl ?_ | (refine st_append (m := 1) rv_ ir_ rfl rfl (by omega) ?_; intro va hpa hra hka hria) | refine st_lit (cs := [AV.int _ _]) rfl rfl ?_ | refine st_conv rfl (by omega) (by omega) ?_) | (show xcode _ _ _ _ _ _; first | refine sx_seq ?_ | refine sx_ops rfl ?_ | refine sx_skip ?_ | refine sx_block ?_ | refine sx_cond_t rfl ?_) | refine sk_norm ?_ | refine bk_norm ?_
    have hS2 := hS.upd 3 (cRow va 1 (i + 1) ((scalarsL (r.l.take i)).map (.int .i64) ++ [.int .i64 (y % 230)])) rfl hra hka hria
    refine lk_next hi2 ⟨va, ?_, hh_⟩
    have e : (scalarsL (r.l.take (i + 1))).map (AV.int .i64) = (scalarsL (r.l.take i)).map (.int .i64) ++ [.int .i64 (y % 230)] := by
      rw [take_snoc hy]; simp [scalarsL]
    rw [e]
    exact hS2
  · have hi3 : i = r.l.length := by omega
    subst hi3
    rw [List.take_length] at hrow
    have hsl : (scalarsL r.l).length = r.l.length := by simp [scalarsL]
    rw [← hsl] at hrow
    have k1 := rlong11_ok L L2 d hd.wide ⟨scalarsL r.l, false⟩ (by show (scalarsL r.l).length ≤ _; omega)
    have k2 := rlong11_ok L L2 x hxm.wide ⟨scalarsL r.l, false⟩ (by show (scalarsL r.l).length ≤ _; omega)
    have e1 : longD d (scalarsL r.l) = longP d.plain (scalarsL r.l) := by rw [longD, if_pos (soundD_t hd.ok)]
    have e2 : longD x (scalarsL r.l) = longP d.plain (scalarsL r.l) := by rw [longD, if_pos (soundD_t hxm.ok), hx.tells hd.ok]
    simp only [e1] at k1
    simp only [e2] at k2
    generalize longP d.plain (scalarsL r.l) = z at k1 k2
    repeat' first | refine st_nil ?_ | (show wops _ _ _ _ _; first | refine st_mv (v := AV.int _ _) rfl ?_ | refine st_mv (v := AV.rd _ _ _) rfl ?_ | (refine st_lss rfl rfl rfl ?_ ?_ <;> (intro hc; try (exfalso; omega))) | refine st_len_rd rfl ?_) | (show xcode _ _ _ _ _ _; first | refine sx_seq ?_ | refine sx_ops rfl ?_ | refine sx_exit ?_ | refine sx_cond_f rfl ?_) | refine sk_norm ?_ | refine sk_exit ?_ | refine bk_exit ?_ | refine lk_exit ?_
    refine sx_freeze 14 (v := v) rfl rfl hrow ?_
    intro h3 hk3
    have hS2 := hS.drop 3 (h' := h3) rfl hk3
    clear ha hb hrow hS
    have ha : h3.get ia = some (.cells 0 d.av) := hS2.get (i := 1) rfl
    have hb : h3.get ib = some (.cells 0 x.av) := hS2.get (i := 2) rfl
    repeat' first | refine st_nil ?_ | (show wops _ _ _ _ _; first | refine st_mv (v := AV.int _ _) rfl ?_ | refine st_mv (v := AV.bool _) rfl ?_ | refine st_mv (v := AV.rd _ _ _) rfl ?_ | refine st_mv (v := AV.tup _) rfl ?_ | refine st_gog rfl ?_ | refine st_load_p rfl hg_ (by simp) (by first | (simp; done) | (simp; omega)) pv_ ?_ | (refine st_eql rfl rfl rfl ?_ ?_ <;> (intro hc; try (exfalso; omega))) | refine st_pick_t (v := AV.bool _) rfl rfl ?_ | refine st_call rfl nt_ ?_ | refine st_extract rfl rfl ?_) | (show xcode _ _ _ _ _ _; first | refine sx_seq ?_ | refine sx_ops rfl ?_ | refine sx_ret ?_) | refine sk_norm ?_ | refine call_pure (by assumption) fz_ fz_ ?_
    all_goals first
      | exact fin_ret (v := .bool true) rfl rfl
      | (exfalso; omega)
      | (exfalso; simp_all; done)

end Go.Proofs.YtpcbpgepjfenhaaDoor
