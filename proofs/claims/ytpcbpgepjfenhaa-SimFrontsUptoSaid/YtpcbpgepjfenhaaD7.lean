/- The document's machines: Sound, closed, Start, Step. The document's machines: closed. -/
import Derived.Test.YtpcbpgepjfenhaaD6
import Derived.Test.YtpcbpgepjfenhaaD3
set_option linter.unusedVariables false
set_option linter.unusedSimpArgs false
namespace Go.Proofs.Ytpcbpgepjfenhaa
open Go
set_option maxHeartbeats 4000000
attribute [local irreducible] wops xcode wcode seqK blockK loopK finK wcall wop wstp Runs

theorem rsound_ok {Φ : Lib} (L : C2Lib Φ) (n : Nfa) (hf : n.Fits) : Pure Φ 21 [.agg n.av] (.bool (soundN n)) := by
  have b1 := hf.tags; have b2 := hf.edges; have b3 := hf.free
  refine runs_of (fun _ => false) rfl L.f21 ?_
  repeat' first | refine st_nil ?_ | (show wops _ _ _ _ _; first | (show wops _ (⟨_, .mv _, none⟩ :: _) _ _ _; first | refine st_mv (v := AV.int _ _) rfl ?_ | refine st_mv (v := AV.bool _) rfl ?_) | (show wops _ (⟨_, _, some _⟩ :: _) _ _ _; first | refine st_skipg rfl ?_ | refine st_gog rfl ?_) | (show wops _ (⟨_, .load _ _ _ _, none⟩ :: _) _ _ _; refine st_load_p rfl hg_ (by simp) (by first | (simp; done) | (simp; omega)) pv_ ?_) | (show wops _ (⟨_, .bin _ _ _, none⟩ :: _) _ _ _; first | (refine st_lss rfl rfl rfl ?_ ?_ <;> (intro hc; try (exfalso; omega))) | (refine st_gtr rfl rfl rfl ?_ ?_ <;> (intro hc; try (exfalso; omega))) | (refine st_neq rfl rfl rfl ?_ ?_ <;> (intro hc; try (exfalso; omega)))) | (show wops _ (⟨_, .fieldAddr _ _, none⟩ :: _) _ _ _; refine st_field_p rfl (Nat.zero_add _) ?_) | (show wops _ (⟨_, .len _ _, none⟩ :: _) _ _ _; refine st_len_rd rfl ?_) | (show wops _ (⟨_, .pick _ _ _, none⟩ :: _) _ _ _; first | refine st_pick_t (v := AV.bool _) rfl rfl ?_ | refine st_pick_f (v := AV.bool _) rfl rfl ?_) | (show wops _ (⟨_, .box _, none⟩ :: _) _ _ _; (refine st_box (v := AV.agg _) rfl rfl ?_; intro id hid; try simp only [Heap.set_none] at hid))) | (show xcode _ _ _ _ _ _; first | refine sx_seq ?_ | refine sx_ops rfl ?_ | refine sx_skip ?_ | refine sx_block ?_ | refine sx_ret ?_ | refine sx_cond_t rfl ?_ | refine sx_cond_f rfl ?_) | refine sk_norm ?_ | refine sk_ret ?_ | refine fin_ret (v := AV.bool _) rfl ?_
  · rw [soundN, if_pos (by omega)]
  · rw [soundN, if_pos (by omega)]
  · rw [soundN, if_pos (by omega)]
  · rw [soundN, if_pos (by omega)]
  rename Nat => ib
  rename Heap.get _ _ = none => hib
  have hsn : soundN n = (List.range n.tags.l.length).all fun i => !oddAt n i := by rw [soundN, if_neg (by omega)]
  refine sx_for n.tags.l.length (fun i env h' => h'.get ib = some (.cells 0 n.av) ∧ (∀ j, j < i → oddAt n j = false) ∧ env.has [(1, .ptr ib 0 0), (3, .int .i64 n.tags.l.length), (4, .int .i64 i)]) ⟨Heap.get_set_self _ _ _, fun j hj => by omega, hh_⟩ ?_
  rintro i env h' hi ⟨hbox, hpre, he⟩
  obtain ⟨env, rfl⟩ := he.ex
  clear he
  by_cases hi2 : i < n.tags.l.length
  · obtain ⟨t, ht⟩ := ex_get hi2
    obtain ⟨es, hes⟩ := ex_get (l := n.edges.l) (show i < n.edges.l.length by omega)
    obtain ⟨fs, hfs⟩ := ex_get (l := n.free.l) (show i < n.free.l.length by omega)
    have hesf := hf.edge es (List.mem_of_getElem? hes)
    have hess := hf.spans es (List.mem_of_getElem? hes)
    have hfsf := hf.frees fs (List.mem_of_getElem? hfs)
    have hodd : oddAt n i = (decide (t < -1) || es.l.any (oddE n.tags.l.length) || fs.l.any (outN n.tags.l.length)) := by
      simp only [oddAt, List.getD_eq_getElem?_getD, ht, hes, hfs, Option.getD_some]
    have hbad : oddAt n i = true → soundN n = false := fun h => by
      rw [hsn]
      rw [List.all_eq_false]
      exact ⟨i, List.mem_range.2 hi2, by simp [h]⟩
    repeat' first | refine st_nil ?_ | (show wops _ _ _ _ _; first | (show wops _ (⟨_, .mv _, none⟩ :: _) _ _ _; refine st_mv (v := AV.int _ _) rfl ?_) | (show wops _ (⟨_, .bin _ _ _, none⟩ :: _) _ _ _; (refine st_lss rfl rfl rfl ?_ ?_ <;> (intro hc; try (exfalso; omega))))) | (show xcode _ _ _ _ _ _; first | refine sx_seq ?_ | refine sx_ops rfl ?_ | refine sx_skip ?_ | refine sx_block ?_ | refine sx_cond_t rfl ?_) | refine sk_norm ?_
    refine sx_for es.l.length (fun j env h' => h'.get ib = some (.cells 0 n.av) ∧ (∀ e ∈ es.l.take j, oddE n.tags.l.length e = false) ∧ env.has [(1, .ptr ib 0 0), (3, .int .i64 n.tags.l.length), (4, .int .i64 i), (5, .int .i64 j)]) ⟨hbox, by simp, hh_⟩ ?_
    clear hbox
    rintro j env h' hj ⟨hbox, hpe, he⟩
    obtain ⟨env, rfl⟩ := he.ex
    clear he
    by_cases hj2 : j < es.l.length
    · obtain ⟨e, he⟩ := ex_get hj2
      have hm := List.mem_of_getElem? he
      have hn1 := rnorm_ok L e.set.l e.set.fl (by have := hesf.2 e hm; omega) (hess e hm)
      have hn2 := alike_ok L (normS e.set.l) e.set.l false e.set.fl (by have := normS_length e.set.l; have := hesf.2 e hm; omega)
      have hbe : oddE n.tags.l.length e = true → soundN n = false := fun h => hbad (by
        rw [hodd, List.any_eq_true.2 ⟨e, hm, h⟩]; simp)
      cases hq : decide (normS e.set.l = e.set.l)
      all_goals
        rw [hq] at hn2
        repeat' first | refine st_nil ?_ | (show wops _ _ _ _ _; first | (show wops _ (⟨_, .mv _, none⟩ :: _) _ _ _; first | refine st_mv (v := AV.int _ _) rfl ?_ | refine st_mv (v := AV.bool _) rfl ?_) | (show wops _ (⟨_, _, some _⟩ :: _) _ _ _; first | refine st_skipg rfl ?_ | refine st_gog rfl ?_) | (show wops _ (⟨_, .load _ _ _ _, none⟩ :: _) _ _ _; first | refine st_load_ra rfl (by first | rfl | (simp [*]; done) | fail) ?_ | refine st_load_r rfl (by first | (simp; done) | (simp; omega)) pv_ ?_ | refine st_load_p rfl hg_ (by simp) (by first | (simp; done) | (simp; omega)) pv_ ?_) | (show wops _ (⟨_, .bin _ _ _, none⟩ :: _) _ _ _; first | refine st_add rfl rfl rfl (by omega) (by omega) ?_ | (refine st_lss rfl rfl rfl ?_ ?_ <;> (intro hc; try (exfalso; omega))) | (refine st_geq rfl rfl rfl ?_ ?_ <;> (intro hc; try (exfalso; omega)))) | (show wops _ (⟨_, .fieldAddr _ _, none⟩ :: _) _ _ _; refine st_field_p rfl (Nat.zero_add _) ?_) | (show wops _ (⟨_, .indexAddr _ _ _, none⟩ :: _) _ _ _; first | refine st_index_flat rfl fl_ rfl rfl (by assumption) rfl ?_ | refine st_index_map rfl rfl rfl (by assumption) rfl ?_) | (show wops _ (⟨_, .len _ _, none⟩ :: _) _ _ _; refine st_len_rd rfl ?_) | (show wops _ (⟨_, .pick _ _ _, none⟩ :: _) _ _ _; first | refine st_pick_t (v := AV.bool _) rfl rfl ?_ | refine st_pick_f (v := AV.bool _) rfl rfl ?_) | (show wops _ (⟨_, .call _ _ _, none⟩ :: _) _ _ _; refine st_call rfl nt_ ?_) | (show wops _ (⟨_, .alloc _, none⟩ :: _) _ _ _; (refine st_alloc ?_; intro id hid; try simp only [Heap.set_none] at hid)) | (show wops _ (⟨_, .store _ _ _, none⟩ :: _) _ _ _; refine st_store_s (cs' := [AV.int _ _, AV.rd _ _ _]) rfl rfl rfl rfl (by first | (simp; done) | (simp; omega)) rfl ?_) | (show wops _ (⟨_, .un _ _, none⟩ :: _) _ _ _; first | refine st_not (b := true) rfl ?_ | refine st_not (b := false) rfl ?_)) | (show xcode _ _ _ _ _ _; first | refine sx_seq ?_ | refine sx_ops rfl ?_ | refine sx_skip ?_ | refine sx_block ?_ | refine sx_ret ?_ | refine sx_cond_t rfl ?_ | refine sx_cond_f rfl ?_) | refine sk_norm ?_ | refine sk_ret ?_ | refine bk_norm ?_ | refine bk_ret ?_ | refine lk_ret ?_ | refine call_pure (by assumption) fz_ fz_ ?_ | refine fin_ret (v := AV.bool _) rfl ?_
      all_goals first
        | (rw [hbe (by simp [oddE, outN, hq]; omega)]; done)
        | (rw [hbe (by simp [oddE, outN, hq])]; done)
        | skip
      refine lk_next hj2 ⟨by rw [Heap.get_set_ne _ _ (by rintro rfl; simp_all)]; exact hbox, fun x hx => ?_, hh_⟩
      rw [take_snoc he] at hx
      rcases List.mem_append.1 hx with hx | hx
      · exact hpe x hx
      · simp only [List.mem_singleton] at hx
        subst hx
        simp [oddE, outN, hq]; omega
    · rw [List.take_of_length_le (by omega)] at hpe
      have ho1 : es.l.any (oddE n.tags.l.length) = false := List.any_eq_false.2 fun x hx => by simp [hpe x hx]
      repeat' first | refine st_nil ?_ | (show wops _ _ _ _ _; first | (show wops _ (⟨_, .mv _, none⟩ :: _) _ _ _; refine st_mv (v := AV.int _ _) rfl ?_) | (show wops _ (⟨_, .load _ _ _ _, none⟩ :: _) _ _ _; first | refine st_load_r rfl (by first | (simp; done) | (simp; omega)) pv_ ?_ | refine st_load_p rfl hg_ (by simp) (by first | (simp; done) | (simp; omega)) pv_ ?_) | (show wops _ (⟨_, .bin _ _ _, none⟩ :: _) _ _ _; (refine st_lss rfl rfl rfl ?_ ?_ <;> (intro hc; try (exfalso; omega)))) | (show wops _ (⟨_, .fieldAddr _ _, none⟩ :: _) _ _ _; refine st_field_p rfl (Nat.zero_add _) ?_) | (show wops _ (⟨_, .indexAddr _ _ _, none⟩ :: _) _ _ _; refine st_index_map rfl rfl rfl (by assumption) rfl ?_) | (show wops _ (⟨_, .len _ _, none⟩ :: _) _ _ _; refine st_len_rd rfl ?_)) | (show xcode _ _ _ _ _ _; first | refine sx_seq ?_ | refine sx_ops rfl ?_ | refine sx_block ?_ | refine sx_exit ?_ | refine sx_cond_f rfl ?_) | refine sk_norm ?_ | refine sk_exit ?_ | refine bk_exit ?_ | refine lk_exit ?_
      refine sx_for fs.l.length (fun j env h' => h'.get ib = some (.cells 0 n.av) ∧ (∀ e ∈ fs.l.take j, outN n.tags.l.length e = false) ∧ env.has [(1, .ptr ib 0 0), (3, .int .i64 n.tags.l.length), (4, .int .i64 i), (7, .int .i64 j)]) ⟨hbox, by simp, hh_⟩ ?_
      clear hbox
      rintro j env h' hj ⟨hbox, hpe, he⟩
      obtain ⟨env, rfl⟩ := he.ex
      clear he
      by_cases hj2 : j < fs.l.length
      · obtain ⟨x, hx⟩ := ex_get hj2
        have hm := List.mem_of_getElem? hx
        have hbe : outN n.tags.l.length x = true → soundN n = false := fun h => hbad (by
          rw [hodd, List.any_eq_true.2 ⟨x, hm, h⟩]; simp)
        repeat' first | refine st_nil ?_ | (show wops _ _ _ _ _; first | (show wops _ (⟨_, .mv _, none⟩ :: _) _ _ _; first | refine st_mv (v := AV.int _ _) rfl ?_ | refine st_mv (v := AV.bool _) rfl ?_) | (show wops _ (⟨_, _, some _⟩ :: _) _ _ _; first | refine st_skipg rfl ?_ | refine st_gog rfl ?_) | (show wops _ (⟨_, .load _ _ _ _, none⟩ :: _) _ _ _; first | refine st_load_r rfl (by first | (simp; done) | (simp; omega)) pv_ ?_ | refine st_load_p rfl hg_ (by simp) (by first | (simp; done) | (simp; omega)) pv_ ?_) | (show wops _ (⟨_, .bin _ _ _, none⟩ :: _) _ _ _; first | refine st_add rfl rfl rfl (by omega) (by omega) ?_ | (refine st_lss rfl rfl rfl ?_ ?_ <;> (intro hc; try (exfalso; omega))) | (refine st_geq rfl rfl rfl ?_ ?_ <;> (intro hc; try (exfalso; omega)))) | (show wops _ (⟨_, .fieldAddr _ _, none⟩ :: _) _ _ _; refine st_field_p rfl (Nat.zero_add _) ?_) | (show wops _ (⟨_, .indexAddr _ _ _, none⟩ :: _) _ _ _; refine st_index_map rfl rfl rfl (by assumption) rfl ?_) | (show wops _ (⟨_, .len _ _, none⟩ :: _) _ _ _; refine st_len_rd rfl ?_) | (show wops _ (⟨_, .pick _ _ _, none⟩ :: _) _ _ _; first | refine st_pick_t (v := AV.bool _) rfl rfl ?_ | refine st_pick_f (v := AV.bool _) rfl rfl ?_)) | (show xcode _ _ _ _ _ _; first | refine sx_seq ?_ | refine sx_ops rfl ?_ | refine sx_skip ?_ | refine sx_block ?_ | refine sx_ret ?_ | refine sx_cond_t rfl ?_ | refine sx_cond_f rfl ?_) | refine sk_norm ?_ | refine sk_ret ?_ | refine bk_norm ?_ | refine bk_ret ?_ | refine lk_ret ?_ | refine fin_ret (v := AV.bool _) rfl ?_
        · rw [hbe (by simp [outN]; omega)]
        · rw [hbe (by simp [outN]; omega)]
        · refine lk_next hj2 ⟨hbox, fun y hy => ?_, hh_⟩
          rw [take_snoc hx] at hy
          rcases List.mem_append.1 hy with hy | hy
          · exact hpe y hy
          · simp only [List.mem_singleton] at hy
            subst hy
            simp [outN]; omega
      · rw [List.take_of_length_le (by omega)] at hpe
        have ho2 : fs.l.any (outN n.tags.l.length) = false := List.any_eq_false.2 fun x hx => by simp [hpe x hx]
        repeat' first | refine st_nil ?_ | (show wops _ _ _ _ _; first | (show wops _ (⟨_, .mv _, none⟩ :: _) _ _ _; first | refine st_mv (v := AV.int _ _) rfl ?_ | refine st_mv (v := AV.bool _) rfl ?_) | (show wops _ (⟨_, .load _ _ _ _, none⟩ :: _) _ _ _; first | refine st_load_r rfl (by first | (simp; done) | (simp; omega)) pv_ ?_ | refine st_load_p rfl hg_ (by simp) (by first | (simp; done) | (simp; omega)) pv_ ?_) | (show wops _ (⟨_, .bin _ _ _, none⟩ :: _) _ _ _; first | refine st_add rfl rfl rfl (by omega) (by omega) ?_ | (refine st_lss rfl rfl rfl ?_ ?_ <;> (intro hc; try (exfalso; omega)))) | (show wops _ (⟨_, .fieldAddr _ _, none⟩ :: _) _ _ _; refine st_field_p rfl (Nat.zero_add _) ?_) | (show wops _ (⟨_, .indexAddr _ _ _, none⟩ :: _) _ _ _; refine st_index_map rfl rfl rfl (by assumption) rfl ?_) | (show wops _ (⟨_, .len _ _, none⟩ :: _) _ _ _; refine st_len_rd rfl ?_)) | (show xcode _ _ _ _ _ _; first | refine sx_seq ?_ | refine sx_ops rfl ?_ | refine sx_skip ?_ | refine sx_ret ?_ | refine sx_exit ?_ | refine sx_cond_t rfl ?_ | refine sx_cond_f rfl ?_) | refine sk_norm ?_ | refine sk_ret ?_ | refine sk_exit ?_ | refine bk_norm ?_ | refine bk_ret ?_ | refine bk_exit ?_ | refine lk_ret ?_ | refine lk_exit ?_ | refine fin_ret (v := AV.bool _) rfl ?_
        · rw [hbad (by rw [hodd]; simp; omega)]
        · refine lk_next hi2 ⟨hbox, fun j hj => ?_, hh_⟩
          by_cases hji : j = i
          · subst hji
            rw [hodd, ho1, ho2]
            simp; omega
          · exact hpre j (by omega)
  · repeat' first | refine st_nil ?_ | (show wops _ _ _ _ _; first | (show wops _ (⟨_, .mv _, none⟩ :: _) _ _ _; first | refine st_mv (v := AV.int _ _) rfl ?_ | refine st_mv (v := AV.bool _) rfl ?_) | (show wops _ (⟨_, .bin _ _ _, none⟩ :: _) _ _ _; (refine st_lss rfl rfl rfl ?_ ?_ <;> (intro hc; try (exfalso; omega))))) | (show xcode _ _ _ _ _ _; first | refine sx_seq ?_ | refine sx_ops rfl ?_ | refine sx_ret ?_ | refine sx_exit ?_ | refine sx_cond_f rfl ?_) | refine sk_norm ?_ | refine sk_exit ?_ | refine bk_exit ?_ | refine lk_exit ?_ | refine fin_ret (v := AV.bool _) rfl ?_
    have : soundN n = true := by
      rw [hsn, List.all_eq_true]
      intro j hj
      rw [List.mem_range] at hj
      simp [hpre j (by omega)]
    rw [this]

end Go.Proofs.Ytpcbpgepjfenhaa
set_option linter.unusedVariables false
set_option linter.unusedSimpArgs false
namespace Go.Proofs.Ytpcbpgepjfenhaa
open Go
set_option maxHeartbeats 4000000
attribute [local irreducible] wops xcode wcode seqK blockK loopK finK wcall wop wstp Runs

def bN : Bool → AV
  | true => .int .i64 1
  | false => .int .i64 0

theorem closed_ok {Φ : Lib} (L : C2Lib Φ) (n : Nfa) (hn : n.Ok) (hf : n.Fits) {h : Heap} {v : AV} {bs : List Bool} (hlen : bs.length = n.k) (hrow : IsRow h v 1 n.k (bs.map bN)) :
    Runs Φ 29 [.agg n.av, v] h (fun v' _ => v' = rowI (closeN n (fun i : Nat => bs[i]? = some true))) := by
  have hmost := hn.most
  have hpos := hn.pos
  rcases hrow with ⟨_, h1, _⟩ | ⟨ir, g, rfl, hr, hg, hrl⟩
  · omega
  generalize hP : (fun i : Nat => bs[i]? = some true) = P
  have hbw : Between n P bs := ⟨hlen, fun i hi => by rw [← hP] at hi; exact hi, fun i hi => .base (by rw [← hP]; exact hi)⟩
  clear hlen hP hrl
  refine runs_of (fun _ => false) rfl L.f29 ?_
  repeat' first | refine st_nil ?_ | (show wops _ _ _ _ _; first | (show wops _ (⟨_, .mv _, none⟩ :: _) _ _ _; first | refine st_mv (v := AV.bool _) rfl ?_ | refine st_mv (v := AV.rd _ _ _) rfl ?_) | (show wops _ (⟨_, .box _, none⟩ :: _) _ _ _; (refine st_box (v := AV.agg _) rfl rfl ?_; intro id hid; try simp only [Heap.set_none] at hid))) | (show xcode _ _ _ _ _ _; first | refine sx_seq ?_ | refine sx_ops rfl ?_ | refine sx_block ?_) | refine sk_norm ?_
  rename Nat => ib
  rename Heap.get _ _ = none => hib
  have hne : ir ≠ ib := by rintro rfl; rw [hr] at hib; cases hib
  have hne' := Ne.symm hne
  refine sx_loop (fun m env h' => ∃ bs more, m = 2 * bs.count false + (if more = true then 1 else 0) ∧ Between n P bs ∧ (more = false → ∀ i, bs[i]? = some true → ∀ t ∈ n.frees i, bs[t.toNat]? = some true) ∧ h'.get ib = some (.cells 0 n.av) ∧ h'.get ir = some (.cells g (bs.map bN)) ∧ env.has [(1, .own ir g 1 0 n.k none), (2, .ptr ib 0 0), (5, .bool more)]) _ ⟨bs, true, rfl, hbw, (fun h => by cases h), Heap.get_set_self _ _ _, (by rw [Heap.get_set_ne _ _ hne]; exact hr), hh_⟩ ?_
  clear hr hib hbw bs
  rintro m env h' ⟨bs, more, rfl, hbw, hcl, hbox, hr, he⟩
  obtain ⟨env, rfl⟩ := he.ex
  clear he
  cases more
  · have hre := hbw.closed (hcl rfl)
    have hlen := hbw.len
    have hmc := marked_close hre
    repeat' first | refine st_nil ?_ | (show wops _ _ _ _ _; first | (show wops _ (⟨_, .mv _, none⟩ :: _) _ _ _; first | refine st_mv (v := AV.int _ _) rfl ?_ | refine st_mv (v := AV.bool _) rfl ?_ | refine st_mv (v := AV.rd _ _ _) rfl ?_)) | (show xcode _ _ _ _ _ _; first | refine sx_seq ?_ | refine sx_ops rfl ?_ | refine sx_block ?_ | refine sx_exit ?_ | refine sx_cond_f rfl ?_) | refine sk_norm ?_ | refine sk_exit ?_ | refine bk_exit ?_ | refine lk_exit ?_
    refine sx_for n.k (fun i env h' => ∃ v, h'.get ir = some (.cells g (bs.map bN)) ∧ IsRow h' v 1 (marked bs i).length ((marked bs i).map (.int .i64)) ∧ v.rowId ≠ some ir ∧ env.has [(1, .own ir g 1 0 n.k none), (8, v), (9, .int .i64 i)]) ⟨_, hr, IsRow.nil _ _, (by simp [AV.rowId]), hh_⟩ ?_
    rintro i env h' hi ⟨v, hr, hrow, hv, he⟩
    obtain ⟨env, rfl⟩ := he.ex
    clear he
    have hml := marked_length bs i
    by_cases hi2 : i < n.k
    · obtain ⟨b, hb⟩ := ex_get (show i < bs.length by omega)
      have hms := marked_succ hb
      cases b
      · repeat' first | refine st_nil ?_ | (show wops _ _ _ _ _; first | (show wops _ (⟨_, .mv _, none⟩ :: _) _ _ _; first | refine st_mv (v := AV.int _ _) rfl ?_ | refine st_mv (v := AV.own _ _ _ _ _ _) rfl ?_) | (show wops _ (⟨_, .load _ _ _ _, none⟩ :: _) _ _ _; refine st_load_map (g := _) rfl hg_ hb eq_ ?_) | (show wops _ (⟨_, .bin _ _ _, none⟩ :: _) _ _ _; first | refine st_add rfl rfl rfl (by omega) (by omega) ?_ | (refine st_lss rfl rfl rfl ?_ ?_ <;> (intro hc; try (exfalso; omega))) | (refine st_eql rfl rfl rfl ?_ ?_ <;> (intro hc; try (exfalso; omega)))) | (show wops _ (⟨_, .indexAddr _ _ _, none⟩ :: _) _ _ _; refine st_index_own rfl rfl (by omega) (by omega) ?_) | (show wops _ (⟨_, .len _ _, none⟩ :: _) _ _ _; refine st_len_own rfl ?_)) | (show xcode _ _ _ _ _ _; first | refine sx_seq ?_ | refine sx_ops rfl ?_ | refine sx_skip ?_ | refine sx_block ?_ | refine sx_cond_t rfl ?_ | refine sx_cond_f rfl ?_) | refine sk_norm ?_ | refine bk_norm ?_
        refine lk_next hi2 ⟨v, hr, ?_, hv, hh_⟩
        rw [hms]; simpa using hrow
      · repeat' first | refine st_nil ?_ | (show wops _ _ _ _ _; first | (show wops _ (⟨_, .mv _, none⟩ :: _) _ _ _; first | refine st_mv (v := AV.int _ _) rfl ?_ | refine st_mv (v := AV.own _ _ _ _ _ _) rfl ?_ | refine st_mv (by simp only [ev_tmp, Env.puts, Env.put_apply, reduceIte, Nat.reduceEqDiff]; exact rfl) ?_) | (show wops _ (⟨_, .load _ _ _ _, none⟩ :: _) _ _ _; refine st_load_map (g := _) rfl hg_ hb eq_ ?_) | (show wops _ (⟨_, .bin _ _ _, none⟩ :: _) _ _ _; first | refine st_add rfl rfl rfl (by omega) (by omega) ?_ | (refine st_lss rfl rfl rfl ?_ ?_ <;> (intro hc; try (exfalso; omega))) | (refine st_eql rfl rfl rfl ?_ ?_ <;> (intro hc; try (exfalso; omega)))) | (show wops _ (⟨_, .indexAddr _ _ _, none⟩ :: _) _ _ _; refine st_index_own rfl rfl (by omega) (by omega) ?_) | (show wops _ (⟨_, .len _ _, none⟩ :: _) _ _ _; refine st_len_own rfl ?_) | (show wops _ (⟨_, .append _ _ _, none⟩ :: _) _ _ _; (refine st_append (m := 1) rv_ ir_ rfl rfl (by omega) ?_; intro va hpa hra hka hria)) | (show wops _ (⟨_, .lit _ _ _ _, none⟩ :: _) _ _ _; refine st_lit (cs := [AV.int _ _]) rfl rfl ?_)) | (show xcode _ _ _ _ _ _; first | refine sx_seq ?_ | refine sx_ops rfl ?_ | refine sx_skip ?_ | refine sx_block ?_ | refine sx_cond_t rfl ?_) | refine sk_norm ?_ | refine bk_norm ?_
        refine lk_next hi2 ⟨va, (hka ir (by rw [hr]; simp) hv).trans hr, ?_, (fun e => ?_), hh_⟩
        · rw [hms]; simpa using hra
        · rcases hria ir e with h | h
          · exact hv h
          · rw [hr] at h; cases h
    · repeat' first | refine st_nil ?_ | (show wops _ _ _ _ _; first | (show wops _ (⟨_, .mv _, none⟩ :: _) _ _ _; first | refine st_mv (v := AV.int _ _) rfl ?_ | refine st_mv (v := AV.own _ _ _ _ _ _) rfl ?_ | refine st_mv (by simp only [ev_tmp, Env.puts, Env.put_apply, reduceIte, Nat.reduceEqDiff]; exact rfl) ?_) | (show wops _ (⟨_, .bin _ _ _, none⟩ :: _) _ _ _; (refine st_lss rfl rfl rfl ?_ ?_ <;> (intro hc; try (exfalso; omega)))) | (show wops _ (⟨_, .len _ _, none⟩ :: _) _ _ _; refine st_len_own rfl ?_)) | (show xcode _ _ _ _ _ _; first | refine sx_seq ?_ | refine sx_ops rfl ?_ | refine sx_ret ?_ | refine sx_exit ?_ | refine sx_cond_f rfl ?_) | refine sk_norm ?_ | refine sk_exit ?_ | refine bk_exit ?_ | refine lk_exit ?_
      have : i = n.k := by omega
      subst this
      rw [hmc] at hrow
      exact fin_row rfl hrow (fun _ => rfl)
  · repeat' first | refine st_nil ?_ | (show wops _ _ _ _ _; first | (show wops _ (⟨_, .mv _, none⟩ :: _) _ _ _; first | refine st_mv (v := AV.int _ _) rfl ?_ | refine st_mv (v := AV.bool _) rfl ?_)) | (show xcode _ _ _ _ _ _; first | refine sx_seq ?_ | refine sx_ops rfl ?_ | refine sx_skip ?_ | refine sx_block ?_ | refine sx_cond_t rfl ?_) | refine sk_norm ?_
    refine sx_for n.k (fun i env h' => ∃ bs2 more, Between n P bs2 ∧ bs2.count false ≤ bs.count false ∧ (more = true → bs2.count false < bs.count false) ∧ (more = false → ∀ i', i' < i → bs2[i']? = some true → ∀ t ∈ n.frees i', bs2[t.toNat]? = some true) ∧ h'.get ib = some (.cells 0 n.av) ∧ h'.get ir = some (.cells g (bs2.map bN)) ∧ env.has [(1, .own ir g 1 0 n.k none), (2, .ptr ib 0 0), (5, .bool more), (6, .int .i64 i)]) ⟨bs, false, hbw, Nat.le_refl _, (fun h => by cases h), (fun _ i' hi => by omega), hbox, hr, hh_⟩ ?_
    clear hbw hbox hr hcl
    rintro i env h' hi ⟨bs2, more, hbw, hcl, hcm, hcc, hbox, hr, he⟩
    obtain ⟨env, rfl⟩ := he.ex
    clear he
    by_cases hi2 : i < n.k
    · obtain ⟨fs, hfs⟩ := ex_get (l := n.free.l) (show i < n.free.l.length by rw [hn.free]; exact hi2)
      have hfsl := hf.frees fs (List.mem_of_getElem? hfs)
      have hfr : n.frees i = fs.l := by simp [Nfa.frees, List.getD_eq_getElem?_getD, hfs]
      repeat' first | refine st_nil ?_ | (show wops _ _ _ _ _; first | (show wops _ (⟨_, .mv _, none⟩ :: _) _ _ _; first | refine st_mv (v := AV.int _ _) rfl ?_ | refine st_mv (v := AV.own _ _ _ _ _ _) rfl ?_) | (show wops _ (⟨_, .bin _ _ _, none⟩ :: _) _ _ _; (refine st_lss rfl rfl rfl ?_ ?_ <;> (intro hc; try (exfalso; omega)))) | (show wops _ (⟨_, .len _ _, none⟩ :: _) _ _ _; refine st_len_own rfl ?_)) | (show xcode _ _ _ _ _ _; first | refine sx_seq ?_ | refine sx_ops rfl ?_ | refine sx_skip ?_ | refine sx_block ?_ | refine sx_cond_t rfl ?_) | refine sk_norm ?_
      refine sx_for fs.l.length (fun j env h' => ∃ bs2 more, Between n P bs2 ∧ bs2.count false ≤ bs.count false ∧ (more = true → bs2.count false < bs.count false) ∧ (more = false → ∀ i', i' < i → bs2[i']? = some true → ∀ t ∈ n.frees i', bs2[t.toNat]? = some true) ∧ (more = false → bs2[i]? = some true → ∀ t ∈ fs.l.take j, bs2[t.toNat]? = some true) ∧ h'.get ib = some (.cells 0 n.av) ∧ h'.get ir = some (.cells g (bs2.map bN)) ∧ env.has [(1, .own ir g 1 0 n.k none), (2, .ptr ib 0 0), (5, .bool more), (6, .int .i64 i), (7, .int .i64 j)]) ⟨bs2, more, hbw, hcl, hcm, hcc, (fun _ _ t ht => by simp at ht), hbox, hr, hh_⟩ ?_
      clear hbw hbox hr hcl hcm hcc
      rintro j env h' hj ⟨bs2, more, hbw, hcl, hcm, hcc, hcj, hbox, hr, he⟩
      obtain ⟨env, rfl⟩ := he.ex
      clear he
      have hlen := hbw.len
      obtain ⟨b, hb⟩ := ex_get (show i < bs2.length by omega)
      have hdone : (j = fs.l.length ∨ b = false) → more = false → ∀ i', i' < i + 1 → bs2[i']? = some true → ∀ t ∈ n.frees i', bs2[t.toNat]? = some true := fun hd hm i' hi' hb' t ht => by
        by_cases e : i' = i
        · subst e
          rcases hd with rfl | rfl
          · rw [List.take_length, ← hfr] at hcj
            exact hcj hm hb' t ht
          · rw [hb] at hb'; cases hb'
        · exact hcc hm i' (by omega) hb' t ht
      by_cases hj2 : j < fs.l.length
      · obtain ⟨t, ht⟩ := ex_get hj2
        have htm := List.mem_of_getElem? ht
        have htk := hn.frees i hi2 t (hfr ▸ htm)
        cases b
        · repeat' first | refine st_nil ?_ | (show wops _ _ _ _ _; first | (show wops _ (⟨_, .mv _, none⟩ :: _) _ _ _; first | refine st_mv (v := AV.int _ _) rfl ?_ | refine st_mv (v := AV.bool _) rfl ?_ | refine st_mv (v := AV.own _ _ _ _ _ _) rfl ?_) | (show wops _ (⟨_, _, some _⟩ :: _) _ _ _; refine st_gog rfl ?_) | (show wops _ (⟨_, .load _ _ _ _, none⟩ :: _) _ _ _; first | refine st_load_map (g := _) rfl hg_ hb eq_ ?_ | refine st_load_r rfl (by first | (simp; done) | (simp; omega)) pv_ ?_ | refine st_load_p rfl hg_ (by simp) (by first | (simp; done) | (simp; omega)) pv_ ?_) | (show wops _ (⟨_, .bin _ _ _, none⟩ :: _) _ _ _; first | refine st_add rfl rfl rfl (by omega) (by omega) ?_ | (refine st_lss rfl rfl rfl ?_ ?_ <;> (intro hc; try (exfalso; omega))) | (refine st_eql rfl rfl rfl ?_ ?_ <;> (intro hc; try (exfalso; omega)))) | (show wops _ (⟨_, .fieldAddr _ _, none⟩ :: _) _ _ _; refine st_field_p rfl (Nat.zero_add _) ?_) | (show wops _ (⟨_, .indexAddr _ _ _, none⟩ :: _) _ _ _; first | refine st_index_map rfl rfl rfl (by assumption) rfl ?_ | refine st_index_own rfl rfl (by omega) (by omega) ?_) | (show wops _ (⟨_, .len _ _, none⟩ :: _) _ _ _; refine st_len_rd rfl ?_) | (show wops _ (⟨_, .pick _ _ _, none⟩ :: _) _ _ _; refine st_pick_t (v := AV.bool _) rfl rfl ?_)) | (show xcode _ _ _ _ _ _; first | refine sx_seq ?_ | refine sx_ops rfl ?_ | refine sx_exit ?_ | refine sx_cond_f rfl ?_) | refine sk_norm ?_ | refine sk_exit ?_ | refine bk_norm ?_ | refine bk_exit ?_ | refine lk_exit ?_
          exact lk_next hi2 ⟨bs2, more, hbw, hcl, hcm, hdone (.inr rfl), hbox, hr, hh_⟩
        · obtain ⟨c, hc'⟩ := ex_get (show t.toNat < bs2.length by omega)
          cases c
          · repeat' first | refine st_nil ?_ | (show wops _ _ _ _ _; first | (show wops _ (⟨_, .mv _, none⟩ :: _) _ _ _; first | refine st_mv (v := AV.int _ _) rfl ?_ | refine st_mv (v := AV.bool _) rfl ?_ | refine st_mv (v := AV.own _ _ _ _ _ _) rfl ?_) | (show wops _ (⟨_, _, some _⟩ :: _) _ _ _; refine st_gog rfl ?_) | (show wops _ (⟨_, .load _ _ _ _, none⟩ :: _) _ _ _; first | refine st_load_map (g := _) rfl hg_ hb eq_ ?_ | refine st_load_map (g := _) rfl hg_ hc' eq_ ?_ | refine st_load_r rfl (by first | (simp; done) | (simp; omega)) pv_ ?_ | refine st_load_p rfl hg_ (by simp) (by first | (simp; done) | (simp; omega)) pv_ ?_) | (show wops _ (⟨_, .bin _ _ _, none⟩ :: _) _ _ _; first | refine st_add rfl rfl rfl (by omega) (by omega) ?_ | (refine st_lss rfl rfl rfl ?_ ?_ <;> (intro hc; try (exfalso; omega))) | (refine st_eql rfl rfl rfl ?_ ?_ <;> (intro hc; try (exfalso; omega)))) | (show wops _ (⟨_, .fieldAddr _ _, none⟩ :: _) _ _ _; refine st_field_p rfl (Nat.zero_add _) ?_) | (show wops _ (⟨_, .indexAddr _ _ _, none⟩ :: _) _ _ _; first | refine st_index_map' rfl rfl ht (by omega) rfl ?_ | refine st_index_map rfl rfl rfl (by assumption) rfl ?_ | refine st_index_own rfl rfl (by omega) (by omega) ?_) | (show wops _ (⟨_, .len _ _, none⟩ :: _) _ _ _; refine st_len_rd rfl ?_) | (show wops _ (⟨_, .pick _ _ _, none⟩ :: _) _ _ _; refine st_pick_t (v := AV.bool _) rfl rfl ?_) | (show wops _ (⟨_, .store _ _ _, none⟩ :: _) _ _ _; refine st_store_p (v := AV.int _ _) rfl rfl hg_ rfl rfl (by first | (simp; done) | (simp; omega)) sv_ ?_)) | (show xcode _ _ _ _ _ _; first | refine sx_seq ?_ | refine sx_ops rfl ?_ | refine sx_skip ?_ | refine sx_block ?_ | refine sx_cond_t rfl ?_) | refine sk_norm ?_ | refine bk_norm ?_
            have e : (bs2.map bN).set (t.toNat * 1) (AV.int .i64 1) = (bs2.set t.toNat true).map bN := by rw [Nat.mul_one, List.map_set]; rfl
            rw [e]
            have hcnt := count_set_true hc'
            exact lk_next hj2 ⟨bs2.set t.toNat true, true, hbw.set hb (hfr ▸ htm) (by omega), by omega, fun _ => by omega, (fun h => by cases h), (fun h => by cases h), by rw [Heap.get_set_ne _ _ hne']; exact hbox, Heap.get_set_self _ _ _, hh_⟩
          · repeat' first | refine st_nil ?_ | (show wops _ _ _ _ _; first | (show wops _ (⟨_, .mv _, none⟩ :: _) _ _ _; first | refine st_mv (v := AV.int _ _) rfl ?_ | refine st_mv (v := AV.bool _) rfl ?_ | refine st_mv (v := AV.own _ _ _ _ _ _) rfl ?_) | (show wops _ (⟨_, _, some _⟩ :: _) _ _ _; refine st_gog rfl ?_) | (show wops _ (⟨_, .load _ _ _ _, none⟩ :: _) _ _ _; first | refine st_load_map (g := _) rfl hg_ hb eq_ ?_ | refine st_load_map (g := _) rfl hg_ hc' eq_ ?_ | refine st_load_r rfl (by first | (simp; done) | (simp; omega)) pv_ ?_ | refine st_load_p rfl hg_ (by simp) (by first | (simp; done) | (simp; omega)) pv_ ?_) | (show wops _ (⟨_, .bin _ _ _, none⟩ :: _) _ _ _; first | refine st_add rfl rfl rfl (by omega) (by omega) ?_ | (refine st_lss rfl rfl rfl ?_ ?_ <;> (intro hc; try (exfalso; omega))) | (refine st_eql rfl rfl rfl ?_ ?_ <;> (intro hc; try (exfalso; omega)))) | (show wops _ (⟨_, .fieldAddr _ _, none⟩ :: _) _ _ _; refine st_field_p rfl (Nat.zero_add _) ?_) | (show wops _ (⟨_, .indexAddr _ _ _, none⟩ :: _) _ _ _; first | refine st_index_map' rfl rfl ht (by omega) rfl ?_ | refine st_index_map rfl rfl rfl (by assumption) rfl ?_ | refine st_index_own rfl rfl (by omega) (by omega) ?_) | (show wops _ (⟨_, .len _ _, none⟩ :: _) _ _ _; refine st_len_rd rfl ?_) | (show wops _ (⟨_, .pick _ _ _, none⟩ :: _) _ _ _; refine st_pick_t (v := AV.bool _) rfl rfl ?_)) | (show xcode _ _ _ _ _ _; first | refine sx_seq ?_ | refine sx_ops rfl ?_ | refine sx_skip ?_ | refine sx_block ?_ | refine sx_cond_t rfl ?_ | refine sx_cond_f rfl ?_) | refine sk_norm ?_ | refine bk_norm ?_
            refine lk_next hj2 ⟨bs2, more, hbw, hcl, hcm, hcc, (fun hm hbi u hu => ?_), hbox, hr, hh_⟩
            rw [take_snoc ht] at hu
            rcases List.mem_append.1 hu with hu | hu
            · exact hcj hm hbi u hu
            · simp only [List.mem_singleton] at hu
              subst hu
              exact hc'
      · repeat' first | refine st_nil ?_ | (show wops _ _ _ _ _; first | (show wops _ (⟨_, .mv _, none⟩ :: _) _ _ _; first | refine st_mv (v := AV.int _ _) rfl ?_ | refine st_mv (v := AV.bool _) rfl ?_) | (show wops _ (⟨_, _, some _⟩ :: _) _ _ _; refine st_skipg rfl ?_) | (show wops _ (⟨_, .load _ _ _ _, none⟩ :: _) _ _ _; first | refine st_load_r rfl (by first | (simp; done) | (simp; omega)) pv_ ?_ | refine st_load_p rfl hg_ (by simp) (by first | (simp; done) | (simp; omega)) pv_ ?_) | (show wops _ (⟨_, .bin _ _ _, none⟩ :: _) _ _ _; first | refine st_add rfl rfl rfl (by omega) (by omega) ?_ | (refine st_lss rfl rfl rfl ?_ ?_ <;> (intro hc; try (exfalso; omega)))) | (show wops _ (⟨_, .fieldAddr _ _, none⟩ :: _) _ _ _; refine st_field_p rfl (Nat.zero_add _) ?_) | (show wops _ (⟨_, .indexAddr _ _ _, none⟩ :: _) _ _ _; refine st_index_map rfl rfl rfl (by assumption) rfl ?_) | (show wops _ (⟨_, .len _ _, none⟩ :: _) _ _ _; refine st_len_rd rfl ?_) | (show wops _ (⟨_, .pick _ _ _, none⟩ :: _) _ _ _; refine st_pick_f (v := AV.bool _) rfl rfl ?_)) | (show xcode _ _ _ _ _ _; first | refine sx_seq ?_ | refine sx_ops rfl ?_ | refine sx_exit ?_ | refine sx_cond_f rfl ?_) | refine sk_norm ?_ | refine sk_exit ?_ | refine bk_norm ?_ | refine bk_exit ?_ | refine lk_exit ?_
        exact lk_next hi2 ⟨bs2, more, hbw, hcl, hcm, hdone (.inl (by omega)), hbox, hr, hh_⟩
    · have : i = n.k := by omega
      subst this
      have hlen := hbw.len
      repeat' first | refine st_nil ?_ | (show wops _ _ _ _ _; first | (show wops _ (⟨_, .mv _, none⟩ :: _) _ _ _; first | refine st_mv (v := AV.int _ _) rfl ?_ | refine st_mv (v := AV.own _ _ _ _ _ _) rfl ?_) | (show wops _ (⟨_, .bin _ _ _, none⟩ :: _) _ _ _; (refine st_lss rfl rfl rfl ?_ ?_ <;> (intro hc; try (exfalso; omega)))) | (show wops _ (⟨_, .len _ _, none⟩ :: _) _ _ _; refine st_len_own rfl ?_)) | (show xcode _ _ _ _ _ _; first | refine sx_seq ?_ | refine sx_ops rfl ?_ | refine sx_exit ?_ | refine sx_cond_f rfl ?_) | refine sk_norm ?_ | refine sk_exit ?_ | refine bk_norm ?_ | refine bk_exit ?_ | refine lk_exit ?_
      refine lk_norm (2 * bs2.count false + (if more = true then 1 else 0)) ?_ ?_
      · cases more
        · simp; omega
        · have := hcm rfl
          simp; omega
      · refine ⟨bs2, more, rfl, hbw, fun hm i' hb' => hcc hm i' ?_ hb', hbox, hr, hh_⟩
        have := lt_of_getElem? hb'
        omega

theorem flat_false (m : Nat) : (List.replicate m [AV.int .i64 0]).flatten = (List.replicate m false).map bN := by
  induction m with
  | zero => rfl
  | succ m ih => rw [List.replicate_succ, List.flatten_cons, ih, List.replicate_succ]; rfl

end Go.Proofs.Ytpcbpgepjfenhaa
