/- Without what is dead. Parts together: the plain law of the walk. Parts together. -/
import Derived.Test.YtpcbpgepjfenhaaGreatDoorE4
import Derived.Test.YtpcbpgepjfenhaaGreatDoorE3
import Derived.Test.YtpcbpgepjfenhaaGreatDoorE2
set_option linter.unusedVariables false
set_option linter.unusedSimpArgs false
namespace Go.Proofs.YtpcbpgepjfenhaaGreatDoor
open Go
set_option maxHeartbeats 4000000
attribute [local irreducible] wops xcode wcode seqK blockK loopK finK wcall wop wstp Runs
def pruneAt (lv : Int → Bool) (rows : List (List Int)) (i : Nat) : List (List Int) := (List.range rows.length).map fun q => if q < i then (rows.getD q []).map (pruneX lv) else rows.getD q []
theorem pruneAt_length (lv : Int → Bool) (rows : List (List Int)) (i : Nat) : (pruneAt lv rows i).length = rows.length := by simp [pruneAt]
theorem pruneAt_zero (lv : Int → Bool) (rows : List (List Int)) : pruneAt lv rows 0 = rows := by
 refine List.ext_getElem (by simp [pruneAt]) fun q h1 h2 => ?_
 simp [pruneAt, List.getD_eq_getElem?_getD, h2]
theorem pruneAt_end (lv : Int → Bool) (rows : List (List Int)) : pruneAt lv rows rows.length = rows.map fun r => r.map (pruneX lv) := by
 refine List.ext_getElem (by simp [pruneAt]) fun q h1 h2 => ?_
 have : q < rows.length := by simpa using h2
 simp [pruneAt, List.getD_eq_getElem?_getD, this]
theorem pruneAt_get {lv : Int → Bool} {rows : List (List Int)} {i : Nat} {r : List Int} (h : rows[i]? = some r) : (pruneAt lv rows i)[i]? = some r := by
 have hi := (List.getElem?_eq_some_iff.1 h).1
 simp only [pruneAt, List.getElem?_map, List.getElem?_range hi, Option.map_some]
 rw [if_neg (by omega), List.getD_eq_getElem?_getD, h]; rfl
theorem pruneAt_set {lv : Int → Bool} {rows : List (List Int)} {i : Nat} {r : List Int} (h : rows[i]? = some r) : (pruneAt lv rows i).set i (r.map (pruneX lv)) = pruneAt lv rows (i + 1) := by
 have hi := (List.getElem?_eq_some_iff.1 h).1
 refine List.ext_getElem (by simp [pruneAt]) fun q h1 h2 => ?_
 rw [List.getElem_set]
 simp only [pruneAt, List.getElem_map, List.getElem_range]
 by_cases e : i = q
 ·subst e
  rw [if_pos rfl, if_pos (by omega), List.getD_eq_getElem?_getD, h]; rfl
 ·rw [if_neg e]
  by_cases h3 : q < i
  ·rw [if_pos h3, if_pos (by omega)]
  ·rw [if_neg h3, if_neg (by omega)]
def pruneRow (lv : Int → Bool) (r : List Int) (k : Nat) : List Int := (r.take k).map (pruneX lv) ++ r.drop k
theorem pruneRow_length (lv : Int → Bool) (r : List Int) (k : Nat) : (pruneRow lv r k).length = r.length := by
 simp [pruneRow]; omega
theorem pruneRow_get {lv : Int → Bool} {r : List Int} {k : Nat} {x : Int} (h : r[k]? = some x) : (pruneRow lv r k)[k]? = some x := by
 have hk := (List.getElem?_eq_some_iff.1 h).1
 unfold pruneRow
 rw [List.getElem?_append_right (by simp; omega)]
 simp only [List.length_map, List.length_take]
 rw [Nat.min_eq_left (by omega), Nat.sub_self, List.getElem?_drop, Nat.add_zero, h]
theorem pruneRow_succ {lv : Int → Bool} {r : List Int} {k : Nat} {x : Int} (h : r[k]? = some x) : pruneRow lv r (k + 1) = (pruneRow lv r k).set k (pruneX lv x) := by
 have hk := (List.getElem?_eq_some_iff.1 h).1
 unfold pruneRow
 rw [List.set_append_right _ _ (by simp; omega)]
 simp only [List.length_map, List.length_take]
 rw [Nat.min_eq_left (by omega), Nat.sub_self, take_snoc h, List.map_append]
 have hd : r.drop k = x :: r.drop (k + 1) := by
  obtain ⟨h1, rfl⟩ := List.getElem?_eq_some_iff.1 h
  exact List.drop_eq_getElem_cons h1
 rw [hd, List.set_cons_zero]
 simp
theorem pruneRow_end (lv : Int → Bool) (r : List Int) : pruneRow lv r r.length = r.map (pruneX lv) := by simp [pruneRow]
set_option maxRecDepth 100000 in
theorem pruned_walk {Φ : Lib} (L : LibC3 Φ) {h0 h : Heap} {P : AV} {T : Rw Int} {inx p : Nat} {ws : List AV} {rows : List (List Int)} (hS : Sep h [cOld h0, cGrid inx ws (rows.map iC)]) (hT : T.l.length = rows.length) (hn : rows.length ≤ 2000) (hp : p ≤ 2000) (hr : ∀ r ∈ rows, r.length = p ∧ ∀ x ∈ r, x = -1 ∨ In rows.length x) :
  Runs Φ 101 [.agg [P, .own inx 1 1 0 rows.length none, T.iv]] h (fun v h' => (∃ lv : Int → Bool, (∀ s, In rows.length s → (lv s = true ↔ LiveS rows.length (rowOf rows) (tagOf T.l) s)) ∧ v = .agg [P, .rd rows.length ((rows.map fun r => Rw.mk (r.map (pruneX lv)) false).map Rw.iv) false, T.iv]) ∧ Sep h' [cOld h0]) := by
 refine runs_of (fun _ => false) rfl L.f101 ?_
 repeat' first | refine st_nil ?_ | (refine gw ?_; first | refine st_load_p rfl hg_ (by simp) b_ pv_ ?_ | refine st_call rfl nt_ ?_ | (refine st_alloc ?_; intro id hid; try simp only [Heap.set_none] at hid) | (refine st_box (v := AV.agg _) rfl rfl ?_; intro id hid; try simp only [Heap.set_none] at hid)) | (refine gx ?_; first | refine sx_seq ?_ | refine sx_ops rfl ?_) | refine sk_norm ?_
 rename_i ib hib
 have hS2 := (hS.new (o := .cells 0 [P, .own inx 1 1 0 rows.length none, T.iv]) hib).new (id := id) (o := .cells 0 [.rd 0 [] true, .rd 0 [] true, .rd 0 [] true]) (by simp only [Heap.set_none]; exact hid)
 refine call_any (live_ok L (T := T) (P := P) (hS2.get (i := 1) rfl) hT hn hp hr) ?_
 rintro _ h2 ⟨⟨os, rfl, hosl, hos⟩, hold⟩
 have hS3 := hS2.ext hold
 clear hS2 hold
 have hbox : h2.get ib = some (.cells 0 [P, .own inx 1 1 0 rows.length none, T.iv]) := hS3.get (i := 2) rfl
 generalize hlv : (fun s : Int => os.getD s.toNat false) = lv
 have hlvx : ∀ {x : Int} {o : Bool}, os[x.toNat]? = some o → lv x = o := fun hx => by rw [← hlv]; simp [List.getD_eq_getElem?_getD, hx]
 have hlive : ∀ s, In rows.length s → (lv s = true ↔ LiveS rows.length (rowOf rows) (tagOf T.l) s) := by rw [← hlv]; exact hos
 have e5 : AV.rd rows.length (bC os) false = .rd os.length (bC os) false := by rw [hosl]
 rw [e5]
 repeat' first | refine st_nil ?_ | (refine gw ?_; first | (refine g0 ?_; first | refine st_mv (v := AV.int _ _) rfl ?_ | refine st_mv (v := AV.rd _ _ _) rfl ?_) | refine st_load_p rfl hg_ (by simp) b_ pv_ ?_ | refine st_field_p rfl (Nat.zero_add _) ?_ | refine st_len_own rfl ?_) | (refine gx ?_; first | refine sx_seq ?_ | refine sx_ops rfl ?_ | refine sx_block ?_) | refine sk_norm ?_
 refine sx_for rows.length (fun i env h' => ∃ ws, Sep h' [cOld h0, cGrid inx ws ((pruneAt lv rows i).map iC), cCell ib (.cells 0 [P, .own inx 1 1 0 rows.length none, T.iv]), cCell id (.cells 0 [.rd 0 [] true, .rd 0 [] true, .rd 0 [] true])] ∧ env.has [(1, .ptr ib 0 0), (2, .ptr id 0 0), (3, .rd os.length (bC os) false), (11, .own inx 1 1 0 rows.length none), (12, .int .i64 rows.length), (13, .int .i64 i)]) ⟨ws, by rw [pruneAt_zero]; exact hS3, hh_⟩ ?_
 clear hS3 hbox hS
 rintro i env h' hi ⟨ws, hS, he⟩
 obtain ⟨env, rfl⟩ := he.ex
 clear he
 have hgr : GridAt h' inx ws _ := hS.get (i := 1) rfl
 have hwl := hgr.len
 rw [List.length_map, pruneAt_length] at hwl
 have hat := hgr.at_
 by_cases hi2 : i < rows.length
 ·obtain ⟨r, hri⟩ := ex_get hi2
  obtain ⟨rl, rto⟩ := hr r (List.mem_of_getElem? hri)
  obtain ⟨w, hw⟩ := ex_get (l := ws) (i := i) (by omega)
  have hrow := hgr.row (r := iC r) hw (by rw [List.getElem?_map, pruneAt_get hri]; rfl)
  rw [List.length_map] at hrow
  have hnt := hrow.notTup
  have hns : w.isStr = false := hrow.app.notStr
  repeat' first | refine st_nil ?_ | (refine gw ?_; first | (refine g0 ?_; first | refine st_mv (v := AV.int _ _) rfl ?_ | refine st_mv rv_ ?_) | refine st_load_raw (g := _) rfl hg_ hw eq_ (by simp) ?_ | (refine st_lss rfl rfl rfl ?_ ?_ <;> (intro hc; try (exfalso; omega))) | refine st_index_own rfl rfl (by omega) (by omega) ?_ | refine st_call rfl nt_ ?_) | (refine gx ?_; first | refine sx_seq ?_ | refine sx_ops rfl ?_ | refine sx_skip ?_ | refine sx_block ?_ | refine sx_cond_t rfl ?_) | refine sk_norm ?_
  refine call_any (clone_ok L (srcCells_row hrow) (by simp) hns hnt (by omega)) ?_
  rintro v h2 ⟨hv, hold, hfresh⟩
  have hS2 := hS.add (cRow v 1 r.length (iC r)) hv hold hfresh
  have hnt2 := hv.notTup
  repeat' first | refine st_nil ?_ | (refine gw ?_; first | (refine g0 ?_; first | refine st_mv (v := AV.int _ _) rfl ?_ | refine st_mv rv_ ?_) | refine st_len_row rv_ (by assumption) ?_) | (refine gx ?_; first | refine sx_seq ?_ | refine sx_ops rfl ?_ | refine sx_block ?_) | refine sk_norm ?_
  refine sx_for r.length (fun k env h' => Sep h' [cOld h0, cGrid inx ws ((pruneAt lv rows i).map iC), cCell ib (.cells 0 [P, .own inx 1 1 0 rows.length none, T.iv]), cCell id (.cells 0 [.rd 0 [] true, .rd 0 [] true, .rd 0 [] true]), cRow v 1 r.length (iC (pruneRow lv r k))] ∧ env.has [(1, .ptr ib 0 0), (2, .ptr id 0 0), (3, .rd os.length (bC os) false), (4, .int .i64 i), (5, v), (11, .own inx 1 1 0 rows.length none), (12, .int .i64 rows.length), (13, .int .i64 i), (20, v), (21, .int .i64 r.length), (22, .int .i64 k)]) ⟨by simpa [pruneRow] using hS2, hh_⟩ ?_
  clear hS hS2 hgr hat hrow hnt hns hold hfresh hv hnt2
  rintro k env h' hk ⟨hS, he⟩
  obtain ⟨env, rfl⟩ := he.ex
  clear he
  have hv : IsRow h' v 1 r.length (iC (pruneRow lv r k)) := hS.get (i := 4) rfl
  have hnt2 := hv.notTup
  by_cases hk2 : k < r.length
  ·obtain ⟨x, hx⟩ := ex_get hk2
   have hxo := rto x (List.mem_of_getElem? hx)
   have hx2 := pruneRow_get (lv := lv) hx
   have hpl := pruneRow_length lv r k
   have hsc := pruneRow_succ (lv := lv) hx
   by_cases hx1 : x = -1
   ·have hpx : pruneX lv x = x := by simp [pruneX, hx1]
    have e1 : pruneRow lv r (k + 1) = pruneRow lv r k := by
     rw [hsc, hpx]
     obtain ⟨h1, h3⟩ := List.getElem?_eq_some_iff.1 hx2
     rw [← h3, List.set_getElem_self]
    repeat' first | refine st_nil ?_ | (refine gw ?_; first | (refine g0 ?_; first | refine st_mv (v := AV.int _ _) rfl ?_ | refine st_mv (v := AV.bool _) rfl ?_) | refine st_skipg rfl ?_ | refine st_load_map (g := _) rfl hg_ hx2 eq_ ?_ | (refine g3 ?_; first | refine st_add rfl rfl rfl (by omega) (by omega) ?_ | (refine st_lss rfl rfl rfl ?_ ?_ <;> (intro hc; try (exfalso; omega))) | (refine st_neq rfl rfl rfl ?_ ?_ <;> (intro hc; try (exfalso; omega)))) | (refine st_index_row rv_ (by assumption) rfl (by omega) (by omega) ?_; intro ir gr hvr hgr hgp; have hner := Heap.ne_of hgr; have hner2 := Heap.ne_of2 hgr) | refine st_pick_f (v := AV.bool _) rfl rfl ?_) | (refine gx ?_; first | refine sx_seq ?_ | refine sx_ops rfl ?_ | refine sx_skip ?_ | refine sx_block ?_ | refine sx_cond_t rfl ?_ | refine sx_cond_f rfl ?_) | refine sk_norm ?_ | refine bk_norm ?_
    refine lk_next hk2 ⟨by rw [e1]; exact hS, hh_⟩
   ·have hxi := hxo.resolve_left hx1
    obtain ⟨o, ho⟩ := ex_get (l := os) (i := x.toNat) (by unfold In at hxi; omega)
    have hlo := hlvx ho
    have hx0 : x = (x.toNat : Int) := by unfold In at hxi; omega
    cases o
    ·have hpx : pruneX lv x = -1 := by simp [pruneX, hx1, hlo]
     rw [hpx] at hsc
     repeat' first | refine st_nil ?_ | (refine gw ?_; first | (refine g0 ?_; first | refine st_mv (v := AV.int _ _) rfl ?_ | refine st_mv (v := AV.bool _) rfl ?_ | refine st_mv (v := AV.rd _ _ _) rfl ?_ | refine st_mv rv_ ?_) | refine st_gog rfl ?_ | (refine g2 ?_; first | refine st_load_map (g := _) rfl hg_ hx2 eq_ ?_ | refine st_load_r rfl b_ pv_ ?_) | (refine g3 ?_; first | refine st_add rfl rfl rfl (by omega) (by omega) ?_ | (refine st_lss rfl rfl rfl ?_ ?_ <;> (intro hc; try (exfalso; omega))) | (refine st_neq rfl rfl rfl ?_ ?_ <;> (intro hc; try (exfalso; omega)))) | (refine g5 ?_; first | refine st_index_map' rfl rfl ho (by omega) rfl ?_ | (refine st_index_row rv_ (by assumption) rfl (by omega) (by omega) ?_; intro ir gr hvr hgr hgp; have hner := Heap.ne_of hgr; have hner2 := Heap.ne_of2 hgr)) | refine st_pick_t (v := AV.bool _) rfl rfl ?_ | refine st_store1 (g := _) rfl rfl hg_ (by simp only [Nat.zero_add, Nat.mul_one]; exact rfl) (by omega) rfl rfl (by exact rfl) ?_ | refine st_not (b := false) rfl ?_) | (refine gx ?_; first | refine sx_seq ?_ | refine sx_ops rfl ?_ | refine sx_skip ?_ | refine sx_block ?_ | refine sx_cond_t rfl ?_) | refine sk_norm ?_ | refine bk_norm ?_
     refine lk_next hk2 ⟨?_, hh_⟩
     rw [hsc]
     have hS2 := hS.rowset 4 (iC ((pruneRow lv r k).set k (-1))) rfl hvr hgp (by simp [pruneRow_length])
     exact hS2
    ·have hpx : pruneX lv x = x := by simp [pruneX, hx1, hlo]
     have e1 : pruneRow lv r (k + 1) = pruneRow lv r k := by
      rw [hsc, hpx]
      obtain ⟨h1, h3⟩ := List.getElem?_eq_some_iff.1 hx2
      rw [← h3, List.set_getElem_self]
     repeat' first | refine st_nil ?_ | (refine gw ?_; first | (refine g0 ?_; first | refine st_mv (v := AV.int _ _) rfl ?_ | refine st_mv (v := AV.bool _) rfl ?_ | refine st_mv (v := AV.rd _ _ _) rfl ?_) | refine st_gog rfl ?_ | (refine g2 ?_; first | refine st_load_map (g := _) rfl hg_ hx2 eq_ ?_ | refine st_load_r rfl b_ pv_ ?_) | (refine g3 ?_; first | refine st_add rfl rfl rfl (by omega) (by omega) ?_ | (refine st_lss rfl rfl rfl ?_ ?_ <;> (intro hc; try (exfalso; omega))) | (refine st_neq rfl rfl rfl ?_ ?_ <;> (intro hc; try (exfalso; omega)))) | (refine g5 ?_; first | refine st_index_map' rfl rfl ho (by omega) rfl ?_ | (refine st_index_row rv_ (by assumption) rfl (by omega) (by omega) ?_; intro ir gr hvr hgr hgp; have hner := Heap.ne_of hgr; have hner2 := Heap.ne_of2 hgr)) | refine st_pick_t (v := AV.bool _) rfl rfl ?_ | refine st_not (b := true) rfl ?_) | (refine gx ?_; first | refine sx_seq ?_ | refine sx_ops rfl ?_ | refine sx_skip ?_ | refine sx_block ?_ | refine sx_cond_t rfl ?_ | refine sx_cond_f rfl ?_) | refine sk_norm ?_ | refine bk_norm ?_
     refine lk_next hk2 ⟨by rw [e1]; exact hS, hh_⟩
  ·have hk3 : k = r.length := by omega
   subst hk3
   rw [pruneRow_end] at hv hS
   have hbox : h'.get ib = some (.cells 0 [P, .own inx 1 1 0 rows.length none, T.iv]) := hS.get (i := 2) rfl
   obtain ⟨hS3, hat2⟩ := hS.gtake 1 1 4 (q := i) (va := v) (r := iC (r.map (pruneX lv))) (by rw [show (iC (r.map (pruneX lv))).length = r.length by simp]; rfl) rfl hw
   repeat' first | refine st_nil ?_ | (refine gw ?_; first | (refine g0 ?_; first | refine st_mv (v := AV.int _ _) rfl ?_ | refine st_mv rv_ ?_) | refine st_load_p rfl hg_ (by simp) b_ pv_ ?_ | (refine g3 ?_; first | refine st_add rfl rfl rfl (by omega) (by omega) ?_ | (refine st_lss rfl rfl rfl ?_ ?_ <;> (intro hc; try (exfalso; omega)))) | refine st_field_p rfl (Nat.zero_add _) ?_ | refine st_index_own rfl rfl (by omega) (by omega) ?_ | refine st_store_row rfl rv_ (by assumption) hg_ b_ (by first | (simp only [List.set_cons_zero, List.set_cons_succ] <;> exact rfl) | exact rfl) ?_) | (refine gx ?_; first | refine sx_seq ?_ | refine sx_ops rfl ?_ | refine sx_exit ?_ | refine sx_cond_f rfl ?_) | refine sk_norm ?_ | refine sk_exit ?_ | refine bk_norm ?_ | refine bk_exit ?_ | refine lk_exit ?_
   refine lk_next hi2 ⟨ws.set i v, ?_, hh_⟩
   rw [← pruneAt_set hri, List.map_set]
   rw [show (0 + (i : Int).toNat) * 1 = i by omega]
   exact hS3
 ·have hi3 : i = rows.length := by omega
  subst hi3
  rw [pruneAt_end] at hS hgr
  have hbox : h'.get ib = some (.cells 0 [P, .own inx 1 1 0 rows.length none, T.iv]) := hS.get (i := 2) rfl
  have hres : h'.get id = some (.cells 0 [.rd 0 [] true, .rd 0 [] true, .rd 0 [] true]) := hS.get (i := 3) rfl
  repeat' first | refine st_nil ?_ | (refine gw ?_; first | refine st_load_p rfl hg_ (by simp) b_ pv_ ?_ | (refine st_lss rfl rfl rfl ?_ ?_ <;> (intro hc; try (exfalso; omega))) | refine st_store_p (v := AV.agg _) rfl rfl hg_ rfl rfl b_ sv_ ?_) | (refine gx ?_; first | refine sx_seq ?_ | refine sx_ops rfl ?_ | refine sx_ret ?_ | refine sx_exit ?_ | refine sx_cond_f rfl ?_) | refine sk_norm ?_ | refine sk_exit ?_ | refine bk_exit ?_ | refine lk_exit ?_
  have hS2 := hS.put 3 (.cells 0 [P, .own inx 1 1 0 rows.length none, T.iv]) rfl
  have hgr2 : GridAt _ inx ws _ := hS2.get (i := 1) rfl
  have hfz := hgr2.fz (S := inGrid inx ws) (lim := none) fun _ h => h
  rw [List.length_map, List.length_map] at hfz
  refine fin_ret_fz (inGrid inx ws) (res_cell rfl (Heap.get_set_self _ _ _) rfl) (.agg (.cons (.same _) (.cons hfz (.cons (.same _) .nil)))) ⟨⟨lv, hlive, ?_⟩, ?_⟩
  ·congr 3
   rw [List.map_map, List.map_map, List.map_map]
   congr 2
   funext r
   simp [Function.comp]
  ·have hS3 := hS2.drop 1 (h' := (h'.set id (.cells 0 [P, .own inx 1 1 0 rows.length none, T.iv])).drop (inGrid inx ws)) rfl fun k hk => by
    simp only [Heap.drop]
    rw [if_neg hk]
   exact hS3.weak (by simp)
end Go.Proofs.YtpcbpgepjfenhaaGreatDoor
set_option linter.unusedVariables false
set_option linter.unusedSimpArgs false
namespace Go.Proofs.YtpcbpgepjfenhaaGreatDoor
open Go
theorem find_place {α β : Type} [DecidableEq β] (f : α → β) (t : β) : ∀ (G : List α), G.findIdx? (fun a => decide (f a = t)) = if t ∈ G.map f then some (placeOf (G.map f) t) else none
 | [] => rfl
 | a :: G => by
  have ih := find_place f t G
  rw [List.findIdx?_cons]
  by_cases h : f a = t
  ·subst h
   simp [placeOf]
  ·have h3 : ¬ t = f a := fun e => h e.symm
   have hb : (f a == t) = false := by simpa using h
   simp only [h, decide_false, Bool.false_eq_true, if_false, ih, List.map_cons, List.mem_cons, h3, false_or]
   split
   ·simp [placeOf, List.idxOf_cons, hb]
   ·rfl
def headT (κ : Int → Int) (R : Int → List Int) (L : List Int) (ks : List Nat) : List UInt8 := wordsS (vec κ R L (ks.headD 0))
theorem alike_find {κ : Int → Int} {R : Int → List Int} {L : List Int} {k : Nat} (G : List (List Nat)) : (wordsS (vec κ R L k) ∈ G.map (headT κ R L) → G.findIdx? (fun ks => alikeC κ R L (ks.headD 0) k) = some (placeOf (G.map (headT κ R L)) (wordsS (vec κ R L k)))) ∧ (wordsS (vec κ R L k) ∉ G.map (headT κ R L) → G.findIdx? (fun ks => alikeC κ R L (ks.headD 0) k) = none) := by
 have h := find_place (headT κ R L) (wordsS (vec κ R L k)) G
 have e : (fun ks : List Nat => alikeC κ R L (ks.headD 0) k) = fun a => decide (headT κ R L a = wordsS (vec κ R L k)) := by
  funext ks
  unfold alikeC headT
  exact decide_eq_decide.2 ⟨fun e => by rw [e], fun e => wordsS_inj e⟩
 rw [e, h]
 exact ⟨fun hm => if_pos hm, fun hm => if_neg hm⟩
theorem span_piece {s : Span} (h : ∀ x, s.lo ≤ x → x ≤ s.hi → scal x = true) : (piecesOf s).length ≤ 1 := by
 unfold piecesOf lowOf highOf
 dsimp only
 split <;> split
 ·rename_i h1 h2
  have := scal_iff.1 (h 55296 (by omega) (by omega))
  omega
 ·simp
 ·simp
 ·simp
theorem normS_len {l : List Span} (h : ∀ s ∈ l, ∀ x, s.lo ≤ x → x ≤ s.hi → scal x = true) : (normS l).length ≤ l.length := by
 have h1 : ∀ (p r : List Span), (p.foldl mergeR r).length ≤ r.length + p.length := by
  intro p
  induction p with
  | nil => intro r; simp
  | cons s p ih =>
   intro r
   have := ih (mergeR r s)
   have h2 : (mergeR r s).length ≤ r.length + 1 := by
    cases r with
    | nil => simp [mergeR]
    | cons a r => simp only [mergeR]; split <;> simp
   rw [List.foldl_cons, List.length_cons]
   omega
 have h2 : ∀ k : List Span, (∀ s ∈ k, ∀ x, s.lo ≤ x → x ≤ s.hi → scal x = true) → (k.flatMap piecesOf).length ≤ k.length := fun k => by
  induction k with
  | nil => simp
  | cons a k ih =>
   intro hk
   have h3 := span_piece (hk a (by simp))
   have h4 := ih fun s hs => hk s (by simp [hs])
   simp only [List.flatMap_cons, List.length_append, List.length_cons]; omega
 have h3 := h1 ((l.flatMap piecesOf).mergeSort fun a b => decide (a.lo ≤ b.lo)) []
 have h4 := h2 l h
 unfold normS mergeS
 rw [List.length_reverse]
 rw [List.length_mergeSort] at h3
 simp only [List.length_nil, Nat.zero_add] at h3
 omega
theorem norm_spans {l : List Span} (h : normS l = l) : ∀ s ∈ l, ∀ x, s.lo ≤ x → x ≤ s.hi → scal x = true := fun s hs x h1 h2 => norm_scal h ⟨s, hs, h1, h2⟩
theorem union_len {a b : List Span} (ha : normS a = a) (hb : normS b = b) : (normS (a ++ b)).length ≤ a.length + b.length := by
 rw [← List.length_append]
 refine normS_len fun s hs => ?_
 rcases List.mem_append.1 hs with hs | hs
 ·exact norm_spans ha s hs
 ·exact norm_spans hb s hs
theorem catS_set {P : List (Rw Span)} {g : Nat} {a : Rw Span} (h : P[g]? = some a) (u : Rw Span) : (catS (P.set g u)).length + a.l.length = (catS P).length + u.l.length := by
 induction P generalizing g with
 | nil => simp at h
 | cons p P ih =>
  cases g with
  | zero =>
   simp at h
   subst h
   simp [catS]
   omega
  | succ g =>
   simp at h
   have := ih h
   simp [catS] at this ⊢
   omega
theorem catS_app (P : List (Rw Span)) (p : Rw Span) : (catS (P ++ [p])).length = (catS P).length + p.l.length := by simp [catS]
theorem unis_snoc (d : PD) (G : List (List Nat)) (k : Nat) : unis d (G ++ [[k]]) = unis d G ++ [d.part k] := by
 simp [unis, uniL]
theorem unis_set (d : PD) {G : List (List Nat)} {g : Nat} {ks : List Nat} (h : G[g]? = some ks) (hne : ks ≠ []) (k : Nat) : unis d (G.set g (ks ++ [k])) = (unis d G).set g (normS (uniL (ks.map d.part) ++ d.part k)) := by
 unfold unis
 rw [List.map_set, List.map_append, List.map_singleton, uniL_snoc (by simpa using hne)]
theorem unis_getE {d : PD} {G : List (List Nat)} {g : Nat} {ks : List Nat} (h : G[g]? = some ks) : (unis d G)[g]? = some (uniL (ks.map d.part)) := by
 unfold unis
 rw [List.getElem?_map, h]; rfl
theorem groups_succ (lv : Nat → Bool) (E : Nat → Nat → Bool) (p : Nat) : groupsL lv E (p + 1) = gStep lv E (groupsL lv E p) p := by simp [groupsL, List.range_succ]
theorem groups_len (lv : Nat → Bool) (E : Nat → Nat → Bool) : ∀ p, (groupsL lv E p).length ≤ p
 | 0 => by simp [groupsL]
 | p + 1 => by
  have ih := groups_len lv E p
  rw [groups_succ, gStep]
  split
  ·split
   ·rw [List.length_set]; omega
   ·simp; omega
  ·omega
theorem head_append {ks : List Nat} (h : ks ≠ []) (k : Nat) : (ks ++ [k]).headD 0 = ks.headD 0 := by
 cases ks with
 | nil => exact absurd rfl h
 | cons a l => rfl
theorem map_set_same {α β : Type} {f : α → β} {l : List α} {i : Nat} {a b : α} (h : l[i]? = some a) (e : f b = f a) : (l.set i b).map f = l.map f := by
 rw [List.map_set, e]
 obtain ⟨h1, rfl⟩ := List.getElem?_eq_some_iff.1 h
 have h2 : i < (l.map f).length := by simpa using h1
 have : f l[i] = (l.map f)[i] := by simp
 rw [this, List.set_getElem_self]
theorem ord_of {m : Nat} {key : Nat → Int} {zs : List Int} (hp : zs.Perm ((List.range m).map fun i : Nat => (i : Int))) (hs : zs.Pairwise fun a b => key a.toNat ≤ key b.toNat) (hi : ∀ a ∈ ordL m key, ∀ b ∈ ordL m key, key a = key b → a = b) : zs = (ordL m key).map fun i : Nat => (i : Int) := by
 have h1 : (zs.map Int.toNat).Perm (List.range m) := by
  have := hp.map Int.toNat
  rw [List.map_map] at this
  have e : (List.range m).map (Int.toNat ∘ fun i : Nat => (i : Int)) = List.range m := by
   refine Eq.trans ?_ (List.map_id _)
   apply List.map_congr_left
   intro i _
   simp
  rwa [e] at this
 have h2 : ordL m key = zs.map Int.toNat := sorted_unique (key := key) ((ordL_perm m key).trans h1.symm) (ordL_sorted m key) (by rw [List.pairwise_map]; exact hs) hi
 rw [h2, List.map_map]
 refine Eq.trans (List.map_id _).symm ?_
 apply List.map_congr_left
 intro z hz
 have : z ∈ (List.range m).map fun i : Nat => (i : Int) := hp.mem_iff.1 hz
 obtain ⟨i, _, rfl⟩ := List.mem_map.1 this
 simp
end Go.Proofs.YtpcbpgepjfenhaaGreatDoor
set_option linter.unusedVariables false
set_option linter.unusedSimpArgs false
namespace Go.Proofs.YtpcbpgepjfenhaaGreatDoor
open Go
set_option maxHeartbeats 4000000
attribute [local irreducible] wops xcode wcode seqK blockK loopK finK wcall wop wstp Runs
@[reducible] def nil3 : DObj := .cells 0 [.rd 0 [] true, .rd 0 [] true, .rd 0 [] true]
@[reducible] def joinCS (h : Heap) (i4 im inx io n : Nat) (ws : List AV) (rows : List (List AV)) (T vp vk : AV) (V : List (List UInt8)) (PL : List (Rw Span)) (ks : List Nat) : List Chunk :=
 [cOld h, cCell i4 nil3, cCell im (.map none (entsFrom AV.str 0 V)), cGrid inx ws rows, cCell io (.cells 0 [vp, .own inx 1 1 0 n none, T]), cRow vp 1 PL.length (PL.map Rw.sv), cRow vk 1 ks.length (ks.map natV)]
structure JoinLib (Φ : Lib) : Prop where
 lo : Φ 120 = some (.ext (extSortLo 121))
theorem plain_row (d : Dfa) : d.plain.row = rowK d.next.l := by
 funext s
 unfold PD.row rowK Dfa.plain plainI
 by_cases h : s.toNat < d.next.l.length
 ·rw [getD_map' _ _ _ ⟨[], false⟩ _ h]
 ·rw [getD_out (by simpa using h), getD_out h]
set_option maxRecDepth 100000 in
theorem joined_walk {Φ : Lib} (L : LibC3 Φ) (L1 : C1Lib Φ) (S : SortLib Φ) (G : GrowLib Φ) (J : JoinLib Φ) {h : Heap} {iw : Nat} {d : Dfa} {K : Rw Int} (hw : WAt h iw d K) (hf : d.Fit K) (hfs : d.Fits) (hok : d.plain.Ok) (hne : ∀ q ∈ d.plain.parts, q ≠ []) (hK : Kinds d.plain.n d.plain.row d.plain.tag (kindK K.l)) :
  Runs Φ 104 [.ptr iw 0 0, rowI (d.plain.L1 (kindK K.l))] h (fun v h' => (∃ PL : List (Rw Span), PL.map (·.l) = (d.plain.O (kindK K.l)).map (fun g => (unis d.plain (d.plain.G (kindK K.l))).getD g []) ∧ v = .agg [.rd PL.length (PL.map Rw.sv) false, .rd d.next.l.length (((List.range d.next.l.length).map fun s : Nat => Rw.mk (d.plain.R2 (kindK K.l) s) false).map Rw.iv) false, d.tags.iv]) ∧ ∀ k, h.get k ≠ none → h'.get k = h.get k) := by
 have hw' : h.get iw = some (.cells 0 [d.parts.mv Rw.sv, d.next.mv Rw.iv, d.tags.iv, K.iv]) := hw
 have hiw : h.get iw ≠ none := by rw [hw']; simp
 have hpl : d.plain.p = d.parts.l.length := by simp [Dfa.plain, plainS, PD.p]
 have hnl : d.plain.n = d.tags.l.length := by simp [Dfa.plain, PD.n]
 have hn2 := hf.n2
 have hp2 := hf.p2
 have hkl := hf.kl
 have htl := hf.tl
 have hnn : d.plain.n = d.next.l.length := by omega
 have hcat := hfs.cat
 obtain ⟨hcome, hclosed⟩ := L1_ok hok hK
 have hLm := hcome.most
 have hLin := hcome.inn
 have hkind : ∀ {h' : Heap} {x : Int}, h'.get iw = h.get iw → x = -1 ∨ In d.plain.n x → Runs Φ 107 [.ptr iw 0 0, .int .i64 x] h' (fun v h2 => v = .int .i64 (kindK K.l x) ∧ h'.Ext h2) := fun {h' x} he hx => by
  refine kind_ok L (K := K) (hw.keep he) x ?_
  rcases hx with h1 | h1
  ·exact .inl h1
  ·right; unfold In at h1; omega
 have hkr := fun x => kindK_range hf x
 have htab := hok.tab
 generalize hLs : d.plain.L1 (kindK K.l) = Ls at hLm hLin
 generalize hκ : kindK K.l = κ at hkind hkr hK hLs
 have hrw : ∀ {s : Int}, In d.plain.n s → ∃ row, d.next.l[s.toNat]? = some row ∧ row.l = d.plain.row s ∧ row.l.length = d.parts.l.length := fun {s} hs => by
  obtain ⟨row, hr⟩ := ex_get (l := d.next.l) (i := s.toNat) (by unfold In at hs; omega)
  refine ⟨row, hr, ?_, hf.rows row (List.mem_of_getElem? hr)⟩
  rw [plain_row, rowK_get (m := s.toNat) (by unfold In at hs; omega) hr]
 refine runs_of (fun _ => false) rfl L.f104 ?_
 repeat' first | refine st_nil ?_ | (refine gw ?_; first | refine st_mv rx_ ?_ | (refine g2 ?_; first | refine st_load_t rx_ ?_ | refine st_load_p rfl hg_ (by simp) b_ pv_ ?_) | (refine g13 ?_; first | refine st_store_t1 rx_ ?_ | refine st_store_t2 rx_ ?_ | refine st_store_p (v := AV.agg _) rfl rfl hg_ rfl rfl b_ sv_ ?_) | (refine g6 ?_; first | refine st_len_t rx_ ?_ | refine st_len_rd rfl ?_) | (refine g4 ?_; first | refine st_field_t rx_ ?_ | refine st_field_p rfl (Nat.zero_add _) ?_) | refine st_nilck_p rfl ?_ | (refine st_alloc ?_; intro id hid; try simp only [Heap.set_none] at hid) | refine st_build rfl ?_ | (refine st_mkslice rfl rfl (by omega) (by omega) ?_; intro id hid; try simp only [Heap.set_none] at hid) | (refine st_mkmap ?_; intro id hid; try simp only [Heap.set_none] at hid)) | (refine gx ?_; first | refine sx_seq ?_ | refine sx_ops rfl ?_) | refine sk_norm ?_
 rename_i i4 hi4 im him inx hinx
 obtain ⟨io, rfl⟩ : ∃ io, io = id := ⟨_, rfl⟩
 refine sep_ops (joinCS h i4 im inx io d.next.l.length (List.replicate d.next.l.length (.rd 0 [] true)) (List.replicate d.next.l.length []) d.tags.iv (.rd 0 [] true) (.rd 0 [] true) [] [] []) ?_ ?_
 ·have s1 := (Sep.old h).new (o := nil3) hi4
  have s2 := s1.new (id := im) (o := .map none []) (by simp only [Heap.set_none]; exact him)
  have s3 := (s2.new (id := inx) (o := .cells 1 (List.replicate d.next.l.length (.rd 0 [] true))) (by simp only [Heap.set_none]; exact hinx)).grid0 3 rfl
  have s4 := (s3.new (id := io) (o := nil3) (by simp only [Heap.set_none]; exact hid)).put 4 (.cells 0 [.rd 0 [] true, .own inx 1 1 0 d.next.l.length none, d.tags.iv]) rfl
  have e1 : (List.replicate (d.next.l.length : Int).toNat [AV.rd 0 [] true]).flatten = List.replicate d.next.l.length (.rd 0 [] true) := replicate_flat _ _
  rw [e1]
  exact (s4.nil 1).nil 1
 intro h1 hS
 have hold := hS.get (i := 0) rfl
 have hw1 : h1.get iw = _ := (hold iw hiw).trans hw'
 repeat' first | refine st_nil ?_ | (refine gw ?_; first | refine st_mv rx_ ?_ | (refine g6 ?_; first | refine st_len_t rx_ ?_ | refine st_len_rd rfl ?_) | refine st_load_p rfl hq_ (by simp) b_ pv_ ?_) | refine sx_block ?_ | refine sk_norm ?_
 refine sx_for d.parts.l.length (fun k env h' => ∃ vp vk PL, PL.map (·.l) = unis d.plain (groupsL (anyC d.plain.row Ls) (alikeC κ d.plain.row Ls) k) ∧ (catS PL).length ≤ (catS (d.parts.l.take k)).length ∧ Sep h' (joinCS h i4 im inx io d.next.l.length (List.replicate d.next.l.length (.rd 0 [] true)) (List.replicate d.next.l.length []) d.tags.iv vp vk ((groupsL (anyC d.plain.row Ls) (alikeC κ d.plain.row Ls) k).map (headT κ d.plain.row Ls)) PL ((groupsL (anyC d.plain.row Ls) (alikeC κ d.plain.row Ls) k).map fun ks => ks.headD 0)) ∧ env.has [(0, .ptr iw 0 0), (1, rowI Ls), (4, .ptr i4 0 0), (5, .map im), (6, .ptr io 0 0), (7, vk), (41, d.parts.mv Rw.sv), (42, .int .i64 d.parts.l.length), (43, .int .i64 k)]) ⟨_, _, [], rfl, by simp [catS], hS, hh_⟩ ?_
 clear hS hold hw1
 rintro k env h' hk ⟨vp, vk, PL, hPL, hcl, hS, he⟩
 obtain ⟨env, rfl⟩ := he.ex
 clear he
 have hold := hS.get (i := 0) rfl
 have hw1 : h'.get iw = _ := (hold iw hiw).trans hw'
 have hglen := groups_len (anyC d.plain.row Ls) (alikeC κ d.plain.row Ls) k
 have hgsucc := groups_succ (anyC d.plain.row Ls) (alikeC κ d.plain.row Ls) k
 have hG2 := groups_ok (lv := anyC d.plain.row Ls) (alikeC_rfl (κ := κ) (R := d.plain.row) (L := Ls)) alikeC_symm alikeC_trans k
 by_cases hk2 : k < d.parts.l.length
 ·obtain ⟨p, hp⟩ := ex_get hk2
  generalize hGg : groupsL (anyC d.plain.row Ls) (alikeC κ d.plain.row Ls) k = GG at *
  repeat' first | refine st_nil ?_ | (refine gw ?_; first | refine st_mv rx_ ?_ | (refine g2 ?_; first | refine st_load_t rx_ ?_ | refine st_load_r rfl b_ pv_ ?_) | (refine g3 ?_; first | refine st_bin_t1 rx_ ?_ | refine st_bin_t2 rx_ ?_ | (refine st_lss rfl rfl rfl ?_ ?_ <;> (intro hc; try (exfalso; omega)))) | (refine g5 ?_; first | refine st_index_t1 rx_ ?_ | refine st_index_t2 rx_ ?_ | refine st_index_map' rfl rfl hp (by omega) rfl ?_) | (refine g6 ?_; first | refine st_len_t rx_ ?_ | refine st_len_rd rfl ?_) | refine st_lit rfl rfl ?_) | (refine gx ?_; first | refine sx_seq ?_ | refine sx_ops rfl ?_ | refine sx_skip ?_ | refine sx_block ?_ | refine sx_cond_t rfl ?_) | refine sk_norm ?_
  refine sx_for Ls.length (fun j env h' => ∃ vb, Sep h' (joinCS h i4 im inx io d.next.l.length (List.replicate d.next.l.length (.rd 0 [] true)) (List.replicate d.next.l.length []) d.tags.iv vp vk (GG.map (headT κ d.plain.row Ls)) PL (GG.map fun ks => ks.headD 0) ++ [cRow vb 1 (wordsS (vec κ d.plain.row (Ls.take j) k)).length (byteCells (wordsS (vec κ d.plain.row (Ls.take j) k)))]) ∧ env.has [(0, .ptr iw 0 0), (1, rowI Ls), (4, .ptr i4 0 0), (5, .map im), (6, .ptr io 0 0), (7, vk), (8, .int .i64 k), (9, p.sv), (10, vb), (11, .bool (anyC d.plain.row (Ls.take j) k)), (41, d.parts.mv Rw.sv), (42, .int .i64 d.parts.l.length), (43, .int .i64 k), (49, rowI Ls), (50, .int .i64 Ls.length), (51, .int .i64 j)]) ⟨_, hS.nil 1, hh_⟩ ?_
  clear hS hold hw1
  rintro j env h' hj ⟨vb, hS, he⟩
  obtain ⟨env, rfl⟩ := he.ex
  clear he
  have hold := hS.get (i := 0) rfl
  have hw1 : h'.get iw = _ := (hold iw hiw).trans hw'
  have hvb : IsRow h' vb 1 _ _ := hS.get (i := 7) rfl
  have hnb := hvb.notTup
  have hwl : (wordsS (vec κ d.plain.row (Ls.take j) k)).length ≤ 20000 := by
   have h1 := wordsS_length (l := vec κ d.plain.row (Ls.take j) k) fun x hx => by
    obtain ⟨s, _, rfl⟩ := List.mem_map.1 hx
    exact hkr _
   have h2 : (vec κ d.plain.row (Ls.take j) k).length ≤ 2000 := by
    unfold vec
    rw [List.length_map, List.length_take]
    omega
   omega
  by_cases hj2 : j < Ls.length
  ·obtain ⟨s, hs⟩ := ex_get hj2
   have hsi := hLin s (List.mem_of_getElem? hs)
   obtain ⟨row, hrow, hrr, hrl⟩ := hrw hsi
   have hs0 : (s.toNat : Int) = s := by unfold In at hsi; omega
   obtain ⟨x, hx⟩ := ex_get (l := row.l) (i := k) (by omega)
   have hxc : col d.plain.row s k = x := by unfold col; rw [← hrr]; simp [List.getD_eq_getElem?_getD, hx]
   have hxo := htab.col hsi k
   rw [hxc] at hxo
   have hxr := hkr x
   have hvn : wordsS (vec κ d.plain.row (Ls.take (j + 1)) k) = wordsS (vec κ d.plain.row (Ls.take j) k) ++ (32 :: intS (κ x)) := by
    unfold vec
    rw [take_snoc hs, List.map_append, wordsS_append, List.map_singleton, hxc]
    simp [wordsS]
   have han : anyC d.plain.row (Ls.take (j + 1)) k = if x = -1 then anyC d.plain.row (Ls.take j) k else true := by
    unfold anyC
    rw [take_snoc hs, List.any_append]
    by_cases e : x = -1 <;> simp [hxc, e]
   generalize hW : wordsS (vec κ d.plain.row (Ls.take j) k) = W at *
   generalize hso : anyC d.plain.row (Ls.take j) k = so at *
   by_cases hx1 : x = -1 <;> cases so
   all_goals
    repeat' first | refine st_nil ?_ | (refine gw ?_; first | refine st_mv rx_ ?_ | (refine g2 ?_; first | refine st_load_t rx_ ?_ | refine st_load_r rfl b_ pv_ ?_ | refine st_load_p rfl hq_ (by simp) b_ pv_ ?_) | (refine g3 ?_; first | refine st_bin_t1 rx_ ?_ | refine st_bin_t2 rx_ ?_ | (refine st_lss rfl rfl rfl ?_ ?_ <;> (intro hc; try (exfalso; omega))) | (refine st_neq rfl rfl rfl ?_ ?_ <;> (intro hc; try (exfalso; omega)))) | (refine g5 ?_; first | refine st_index_t1 rx_ ?_ | refine st_index_t2 rx_ ?_ | refine st_index_map' rfl rfl hrow (by omega) rfl ?_ | refine st_index_map' rfl rfl hx (by omega) rfl ?_ | refine st_index_map rfl rfl rfl (by assumption) rfl ?_) | (refine g14 ?_; first | refine st_append_t1 rx_ ?_ | refine st_append_t2 rx_ ?_ | (refine st_append (m := 1) rx_ iq_ rfl rfl (by omega) ?_; intro va hpa hra hka hria)) | (refine g4 ?_; first | refine st_field_t rx_ ?_ | refine st_field_p rfl (Nat.zero_add _) ?_) | (refine g1 ?_; first | refine st_skipg rfl ?_ | refine st_gog rfl ?_) | (refine g7 ?_; first | refine st_pick_t (v := AV.bool _) rfl rfl ?_ | refine st_pick_f (v := AV.bool _) rfl rfl ?_) | refine st_nilck_p rfl ?_ | refine st_lit (cs := [AV.int _ _]) rfl rfl ?_) | (refine gx ?_; first | refine sx_seq ?_ | refine sx_ops rfl ?_ | refine sx_skip ?_ | refine sx_block ?_ | refine sx_cond_t rfl ?_) | refine sk_norm ?_
    have hS2 := hS.upd 7 (cRow va 1 (W.length + 1) (byteCells W ++ [.int .u8 32])) rfl hra hka hria
    have hold2 := hS2.get (i := 0) rfl
    have hw2 : hpa.get iw = _ := (hold2 iw hiw).trans hw'
    repeat' first | (refine gw ?_; first | refine st_mv rx_ ?_ | (refine g2 ?_; first | refine st_load_t rx_ ?_ | refine st_load_r rfl b_ pv_ ?_ | refine st_load_p rfl hq_ (by simp) b_ pv_ ?_) | (refine g5 ?_; first | refine st_index_t1 rx_ ?_ | refine st_index_t2 rx_ ?_ | refine st_index_map' rfl rfl hrow (by omega) rfl ?_ | refine st_index_map' rfl rfl hx (by omega) rfl ?_) | refine st_call rfl nt_ ?_)
    refine call_quiet (by omega) (hkind (hold2 iw hiw) hxo) ?_
    repeat' first | refine st_call rfl nt_ ?_
    refine call_any (strconv_ok L hra (by omega) (κ x) (by omega) (by omega)) ?_
    rintro v2 h2 ⟨hv2, hk3, hi3⟩
    have hnt2 := hv2.notTup
    have hS3 := hS2.upd 7 (cRow v2 1 (W.length + 1 + (intS (κ x)).length) (byteCells W ++ [.int .u8 32] ++ byteCells (intS (κ x)))) rfl hv2 hk3 hi3
    repeat' first | refine st_nil ?_ | (refine gw ?_; first | refine st_mv rx_ ?_ | (refine g3 ?_; first | refine st_bin_t1 rx_ ?_ | refine st_add rfl rfl rfl (by omega) (by omega) ?_)) | refine sx_ops rfl ?_ | refine sk_norm ?_ | refine bk_norm ?_
    refine lk_next hj2 ?_
    rw [han]
    first
     | rw [if_pos hx1]
     | rw [if_neg hx1]
    refine ⟨v2, ?_, hh_⟩
    rw [hvn]
    have e1 : (W ++ (32 :: intS (κ x))).length = W.length + 1 + (intS (κ x)).length := by simp; omega
    have e2 : byteCells (W ++ (32 :: intS (κ x))) = byteCells W ++ [AV.int .u8 32] ++ byteCells (intS (κ x)) := by simp [byteCells]
    rw [e1, e2]
    exact hS3
  ·rw [List.take_of_length_le (by omega)] at hS hvb hwl ⊢
   have hm := hS.get (i := 2) rfl
   have hns : vb.isStr = false := hvb.app.notStr
   cases hso : anyC d.plain.row Ls k
   ·have hg2 : groupsL (anyC d.plain.row Ls) (alikeC κ d.plain.row Ls) (k + 1) = GG := by
     rw [hgsucc, gStep, hso]; rfl
    have hSx := hS.drop 7 (h' := h') rfl fun _ _ => rfl
    refine sx_seq ?_
    repeat' first | refine st_nil ?_ | (refine gw ?_; first | refine st_mv rx_ ?_ | (refine g3 ?_; first | refine st_bin_t1 rx_ ?_ | refine st_bin_t2 rx_ ?_ | (refine st_lss rfl rfl rfl ?_ ?_ <;> (intro hc; try (exfalso; omega))))) | (refine gx ?_; first | refine sx_seq ?_ | refine sx_ops rfl ?_ | refine sx_exit ?_ | refine sx_cond_f rfl ?_) | refine sk_norm ?_ | refine sk_exit ?_ | refine bk_exit ?_ | refine lk_exit ?_
    refine st_strOf rfl hns (srcCells_row hvb) ?_
    refine st_lookup2 (key := AV.str (wordsS (vec κ d.plain.row Ls k))) rfl rfl rfl hm ?_
    generalize alook _ _ = o
    cases o
    all_goals
     repeat' first | refine st_nil ?_ | (refine gw ?_; first | refine st_mv rx_ ?_ | (refine g3 ?_; first | refine st_bin_t1 rx_ ?_ | refine st_add rfl rfl rfl (by omega) (by omega) ?_) | refine st_not (b := false) rfl ?_ | refine st_extract rfl rfl ?_) | (refine gx ?_; first | refine sx_seq ?_ | refine sx_ops rfl ?_ | refine sx_skip ?_ | refine sx_block ?_ | refine sx_cond_t rfl ?_) | refine sk_norm ?_ | refine bk_norm ?_
     refine lk_next hk2 ⟨vp, vk, PL, ?_, ?_, ?_, hh_⟩
     ·rw [hg2]; exact hPL
     ·exact Nat.le_trans hcl (by rw [catS_snoc hp]; simp)
     ·rw [hg2]; exact hSx
   ·have hPLl : PL.length = GG.length := by
     have := congrArg List.length hPL
     simpa [unis] using this
    have hpp : d.plain.part k = p.l := by simp [PD.part, Dfa.plain, plainS, List.getD_eq_getElem?_getD, hp]
    have hvk : IsRow h' vk 1 _ _ := hS.get (i := 6) rfl
    have hvp : IsRow h' vp 1 _ _ := hS.get (i := 5) rfl
    have hio : h'.get io = some (.cells 0 [vp, .own inx 1 1 0 d.next.l.length none, d.tags.iv]) := hS.get (i := 4) rfl
    have hnk := hvk.notTup
    have hnp := hvp.notTup
    rw [List.length_map] at hvk
    refine sx_seq ?_
    repeat' first | refine st_nil ?_ | (refine gw ?_; first | refine st_mv rx_ ?_ | (refine g3 ?_; first | refine st_bin_t1 rx_ ?_ | refine st_bin_t2 rx_ ?_ | (refine st_lss rfl rfl rfl ?_ ?_ <;> (intro hc; try (exfalso; omega))))) | (refine gx ?_; first | refine sx_seq ?_ | refine sx_ops rfl ?_ | refine sx_exit ?_ | refine sx_cond_f rfl ?_) | refine sk_norm ?_ | refine sk_exit ?_ | refine bk_exit ?_ | refine lk_exit ?_
    refine st_strOf rfl hns (srcCells_row hvb) ?_
    refine st_lookup2 (key := AV.str (wordsS (vec κ d.plain.row Ls k))) rfl rfl rfl hm ?_
    rw [alook_ents str_inj]
    by_cases hmem : wordsS (vec κ d.plain.row Ls k) ∈ GG.map (headT κ d.plain.row Ls)
    ·rw [if_pos hmem]
     have hfind := (alike_find GG).1 hmem
     have hlt := placeOf_lt hmem
     generalize placeOf (GG.map (headT κ d.plain.row Ls)) (wordsS (vec κ d.plain.row Ls k)) = g at *
     rw [List.length_map] at hlt
     obtain ⟨ks, hks⟩ := ex_get hlt
     obtain ⟨a, ha⟩ := ex_get (l := PL) (i := g) (by omega)
     have hksne := hG2.ne ks (List.mem_of_getElem? hks)
     have hg2 : groupsL (anyC d.plain.row Ls) (alikeC κ d.plain.row Ls) (k + 1) = GG.set g (ks ++ [k]) := by
      rw [hgsucc, gStep, hso, if_pos rfl, hfind]
      simp [List.getD_eq_getElem?_getD, hks]
     have hal : a.l = uniL (ks.map d.plain.part) := by
      have h1 := unis_getE (d := d.plain) hks
      rw [← hPL, List.getElem?_map, ha] at h1
      exact Option.some.inj h1
     have hsz := catS_part ha
     have hcs := catS_snoc hp
     have hcs2 := catS_take_le d.parts.l (k + 1)
     rw [hcs, List.length_append] at hcs2
     have hcat2 : catS [a, p] = a.l ++ p.l := by simp [catS]
     have hu := union_ok L L1 S G [a, p] true (by simp) (by rw [hcat2, List.length_append]; omega)
     rw [hcat2] at hu
     have hu : Pure Φ 119 [.rd 2 [a.sv, p.sv] true] (.rd (normS (a.l ++ p.l)).length ((normS (a.l ++ p.l)).flatMap Span.av) false) := hu
     rw [Nat.zero_add]
     repeat' first | refine st_nil ?_ | (refine gw ?_; first | refine st_mv rx_ ?_ | (refine g2 ?_; first | refine st_load_t rx_ ?_ | refine st_load_map (g := _) rfl hq_ ha eq_ ?_ | refine st_load_p rfl hq_ (by simp) b_ pv_ ?_) | (refine g3 ?_; first | refine st_bin_t1 rx_ ?_ | refine st_add rfl rfl rfl (by omega) (by omega) ?_) | (refine g5 ?_; first | refine st_index_t1 rx_ ?_ | refine st_index_t2 rx_ ?_ | (refine st_index_row rx_ (by assumption) rfl (by omega) (by omega) ?_; intro ir gr hvr hgr hgp; have hner := Heap.ne_of hgr; have hner2 := Heap.ne_of2 hgr)) | (refine g13 ?_; first | refine st_store_t1 rx_ ?_ | refine st_store_t2 rx_ ?_ | refine st_store_p (v := AV.rd _ _ _) rfl rfl hq_ rfl rfl b_ sv_ ?_) | (refine g4 ?_; first | refine st_field_t rx_ ?_ | refine st_field_p rfl (Nat.zero_add _) ?_) | refine st_call rfl nt_ ?_ | refine st_lit rfl rfl ?_ | refine st_not (b := true) rfl ?_ | refine st_extract rfl rfl ?_) | (refine gx ?_; first | refine sx_seq ?_ | refine sx_ops rfl ?_ | refine sx_block ?_ | refine sx_cond_t rfl ?_ | refine sx_cond_f rfl ?_) | refine sk_norm ?_ | refine bk_norm ?_ | refine call_pure (by assumption) fz_ fz_ ?_
     refine lk_next hk2 ⟨vp, vk, PL.set g ⟨normS (a.l ++ p.l), false⟩, ?_, ?_, ?_, hh_⟩
     ·rw [hg2, unis_set d.plain hks hksne, ← hal, hpp, List.map_set, hPL]
     ·have h1 := catS_set ha ⟨normS (a.l ++ p.l), false⟩
      have h2 := union_len (a := a.l) (b := p.l) (by rw [hal]; exact uni_norm hok ks) (by rw [← hpp]; exact part_norm hok k)
      rw [hcs, List.length_append]
      dsimp only at h1
      omega
     ·rw [hg2, map_set_same hks (show headT κ d.plain.row Ls (ks ++ [k]) = headT κ d.plain.row Ls ks by unfold headT; rw [head_append hksne]), map_set_same hks (head_append hksne k)]
      have hS2 := (hS.rowset 5 ((PL.set g ⟨normS (a.l ++ p.l), false⟩).map Rw.sv) rfl hvr hgp (by simp)).drop 7 rfl fun _ _ => rfl
      have e7 : (PL.map Rw.sv).set ((g : Int).toNat * 1) (.rd (normS (a.l ++ p.l)).length ((normS (a.l ++ p.l)).flatMap Span.av) false) = (PL.set g ⟨normS (a.l ++ p.l), false⟩).map Rw.sv := by
       rw [show (g : Int).toNat * 1 = g by omega, List.map_set]
      simp only [joinCS, List.length_set]
      rw [e7]
      exact hS2
    ·rw [if_neg hmem]
     have hfind := (alike_find GG).2 hmem
     have hg2 : groupsL (anyC d.plain.row Ls) (alikeC κ d.plain.row Ls) (k + 1) = GG ++ [[k]] := by
      rw [hgsucc, gStep, hso, if_pos rfl, hfind]
     repeat' first | refine st_nil ?_ | (refine gw ?_; first | refine st_mv rx_ ?_ | refine st_not (b := true) rfl ?_ | refine st_extract rfl rfl ?_) | (refine gx ?_; first | refine sx_seq ?_ | refine sx_ops rfl ?_ | refine sx_block ?_ | refine sx_cond_f rfl ?_) | refine sk_norm ?_
     refine st_strOf rfl hns (srcCells_row hvb) ?_
     repeat' first | (refine gw ?_; first | refine st_mv rx_ ?_ | (refine g6 ?_; first | refine st_len_t rx_ ?_ | refine st_len_row rx_ (by assumption) ?_))
     refine st_update (key := AV.str (wordsS (vec κ d.plain.row Ls k))) (v := AV.int .i64 GG.length) rfl rfl rfl rfl rfl hm ?_
     have he2 := aput_ents str_inj (wordsS (vec κ d.plain.row Ls k)) (GG.map (headT κ d.plain.row Ls)) 0 hmem
     rw [Nat.zero_add, List.length_map] at he2
     rw [he2]
     have hS2 := hS.put 2 (.map none (entsFrom AV.str 0 (GG.map (headT κ d.plain.row Ls) ++ [wordsS (vec κ d.plain.row Ls k)]))) rfl
     have hvk2 : IsRow _ vk 1 _ _ := hS2.get (i := 6) rfl
     rw [List.length_map] at hvk2
     repeat' first | refine st_nil ?_ | (refine gw ?_; first | refine st_mv rx_ ?_ | refine st_load_t rx_ ?_ | (refine g14 ?_; first | refine st_append_t1 rx_ ?_ | refine st_append_t2 rx_ ?_ | (refine st_append (m := 1) rx_ iq_ rfl rfl (by omega) ?_; intro va hpa hra hka hria)) | (refine g4 ?_; first | refine st_field_t rx_ ?_ | refine st_field_p rfl (Nat.zero_add _) ?_) | refine st_lit (cs := [AV.int _ _]) rfl rfl ?_) | (refine gx ?_; first | refine sx_seq ?_ | refine sx_ops rfl ?_) | refine sk_norm ?_
     have hS3 := hS2.upd 6 (cRow va 1 (GG.length + 1) ((GG.map fun ks => ks.headD 0).map natV ++ [.int .i64 k])) rfl hra hka hria
     have hio3 : hpa.get io = some (.cells 0 [vp, .own inx 1 1 0 d.next.l.length none, d.tags.iv]) := hS3.get (i := 4) rfl
     have hvp3 : IsRow hpa vp 1 _ _ := hS3.get (i := 5) rfl
     clear hS2 hvk2 hka hria hS hra
     repeat' first | (refine gw ?_; first | refine st_mv rx_ ?_ | (refine g13 ?_; first | refine st_store_t1 rx_ ?_ | refine st_store_t2 rx_ ?_) | (refine g14 ?_; first | refine st_append_t1 rx_ ?_ | refine st_append_t2 rx_ ?_ | (refine st_append (m := 1) rx_ iq_ rfl rfl (by omega) ?_; intro va hpa hra hka hria)) | (refine g4 ?_; first | refine st_field_t rx_ ?_ | refine st_field_p rfl (Nat.zero_add _) ?_) | refine st_load_p rfl hq_ (by simp) b_ pv_ ?_ | refine st_lit (cs := [AV.rd _ _ _]) rfl rfl ?_)
     rename_i vk2 hpa1
     have hS4 := hS3.upd 5 (cRow va 1 (PL.length + 1) (PL.map Rw.sv ++ [p.sv])) rfl hra hka hria
     have hio4 : hpa.get io = some (.cells 0 [vp, .own inx 1 1 0 d.next.l.length none, d.tags.iv]) := hS4.get (i := 4) rfl
     refine st_store_row (v := va) (cs' := [va, .own inx 1 1 0 d.next.l.length none, d.tags.iv]) rfl rfl hra hio4 (by simp) rfl ?_
     have hS5 := (hS4.put 4 (.cells 0 [va, .own inx 1 1 0 d.next.l.length none, d.tags.iv]) rfl).drop 7 rfl fun _ _ => rfl
     repeat' first | refine st_nil ?_ | (refine gw ?_; first | refine st_mv rx_ ?_ | (refine g3 ?_; first | refine st_bin_t1 rx_ ?_ | refine st_add rfl rfl rfl (by omega) (by omega) ?_)) | refine sx_ops rfl ?_ | refine sk_norm ?_ | refine bk_norm ?_
     refine lk_next hk2 ⟨va, vk2, PL ++ [p], ?_, ?_, ?_, hh_⟩
     ·rw [hg2, unis_snoc, List.map_append, hPL, hpp]; rfl
     ·rw [catS_app, catS_snoc hp, List.length_append]; omega
     ·rw [hg2]
      simp only [joinCS, List.map_append, List.map_singleton, List.length_append, List.length_map, List.length_singleton]
      exact hS5
 ·have hk3 : k = d.parts.l.length := by omega
  have hGd : groupsL (anyC d.plain.row Ls) (alikeC κ d.plain.row Ls) k = d.plain.G κ := by
   unfold PD.G
   rw [hLs, hpl, hk3]
  rw [hGd] at hPL hS hglen hG2
  clear hgsucc
  have hvk : IsRow h' vk 1 _ _ := hS.get (i := 6) rfl
  rw [List.length_map] at hvk
  have hPLl : PL.length = (d.plain.G κ).length := by
   have := congrArg List.length hPL
   simpa [unis] using this
  repeat' first | refine st_nil ?_ | (refine gw ?_; first | refine st_mv rx_ ?_ | (refine g3 ?_; first | refine st_bin_t1 rx_ ?_ | refine st_bin_t2 rx_ ?_ | (refine st_lss rfl rfl rfl ?_ ?_ <;> (intro hc; try (exfalso; omega)))) | (refine g6 ?_; first | refine st_len_t rx_ ?_ | refine st_len_own rfl ?_ | refine st_len_row rx_ (by assumption) ?_) | (refine st_mkslice rfl rfl (by omega) (by omega) ?_; intro id hid; try simp only [Heap.set_none] at hid)) | (refine gx ?_; first | refine sx_seq ?_ | refine sx_ops rfl ?_ | refine sx_block ?_ | refine sx_exit ?_ | refine sx_cond_f rfl ?_) | refine sk_norm ?_ | refine sk_exit ?_ | refine bk_exit ?_ | refine lk_exit ?_
  have e1 : (List.replicate ((d.plain.G κ).length : Int).toNat [AV.int .i64 0]).flatten = List.replicate (d.plain.G κ).length (.int .i64 0) := replicate_flat _ _
  rw [e1]
  generalize hm : (d.plain.G κ).length = m at *
  have hS1 := hS.new (o := .cells 1 (List.replicate m (.int .i64 0))) hid
  clear e1 hS hvk
  refine sx_for m (fun j env h' => Sep h' (joinCS h i4 im inx io d.next.l.length (List.replicate d.next.l.length (.rd 0 [] true)) (List.replicate d.next.l.length []) d.tags.iv vp vk ((d.plain.G κ).map (headT κ d.plain.row Ls)) PL ((d.plain.G κ).map fun ks => ks.headD 0) ++ [cCell id (.cells 1 ((List.range j).map natV ++ List.replicate (m - j) (.int .i64 0)))]) ∧ env.has [(0, .ptr iw 0 0), (4, .ptr i4 0 0), (6, .ptr io 0 0), (7, vk), (16, .own id 1 1 0 m none), (132, .int .i64 m), (133, .int .i64 j)]) ⟨by simpa using hS1, hh_⟩ ?_
  clear hS1 hid
  rintro j env h' hj ⟨hS, he⟩
  obtain ⟨env, rfl⟩ := he.ex
  clear he
  have hat : h'.get id = some (.cells 1 ((List.range j).map natV ++ List.replicate (m - j) (.int .i64 0))) := hS.get (i := 7) rfl
  by_cases hj2 : j < m
  ·repeat' first | refine st_nil ?_ | (refine gw ?_; first | refine st_mv rx_ ?_ | (refine g3 ?_; first | refine st_bin_t1 rx_ ?_ | refine st_bin_t2 rx_ ?_ | refine st_add rfl rfl rfl (by omega) (by omega) ?_ | (refine st_lss rfl rfl rfl ?_ ?_ <;> (intro hc; try (exfalso; omega)))) | (refine g5 ?_; first | refine st_index_t1 rx_ ?_ | refine st_index_t2 rx_ ?_ | refine st_index_own rfl rfl (by omega) (by omega) ?_) | (refine g13 ?_; first | refine st_store_t1 rx_ ?_ | refine st_store_t2 rx_ ?_ | refine st_store_p (v := AV.int _ _) rfl rfl hq_ rfl rfl b_ sv_ ?_)) | (refine gx ?_; first | refine sx_seq ?_ | refine sx_ops rfl ?_ | refine sx_skip ?_ | refine sx_block ?_ | refine sx_cond_t rfl ?_) | refine sk_norm ?_ | refine bk_norm ?_
   refine lk_next hj2 ⟨?_, hh_⟩
   have hS2 := hS.put 7 (.cells 1 (((List.range j).map natV ++ List.replicate (m - j) (AV.int .i64 0)).set j (natV j))) rfl
   rw [fill_set (by simp) hj2] at hS2
   rw [List.range_succ, List.map_append, List.map_singleton]
   have e8 : ((List.range j).map natV ++ List.replicate (m - j) (AV.int .i64 0)).set ((j : Int).toNat * 1) (AV.int .i64 j) = (List.range j).map natV ++ [natV j] ++ List.replicate (m - (j + 1)) (.int .i64 0) := by
    rw [show (j : Int).toNat * 1 = j by omega]
    exact fill_set (by simp) hj2
   rw [e8]
   exact hS2
  ·have hj3 : j = m := by omega
   subst hj3
   rw [Nat.sub_self, List.replicate_zero, List.append_nil] at hS hat
   have hvp : IsRow h' vp 1 PL.length (PL.map Rw.sv) := hS.get (i := 5) rfl
   have hio : h'.get io = some (.cells 0 [vp, .own inx 1 1 0 d.next.l.length none, d.tags.iv]) := hS.get (i := 4) rfl
   have hdio : id ≠ io := fun e => hS.disj (i := 7) (j := 4) rfl rfl (by decide) id rfl e
   have hsort : Runs Φ 120 [.own id 1 1 0 j none, .fn 121 [.ptr io 0 0]] h' (fun _ h2 => Sep h2 (joinCS h i4 im inx io d.next.l.length (List.replicate d.next.l.length (.rd 0 [] true)) (List.replicate d.next.l.length []) d.tags.iv vp vk ((d.plain.G κ).map (headT κ d.plain.row Ls)) PL ((d.plain.G κ).map fun ks => ks.headD 0) ++ [cCell id (.cells 1 ((d.plain.O κ).map natV))])) := by
    refine Runs.ext rfl J.lo ⟨rfl, rfl, rfl, rfl, ?_⟩
    have hOl : (d.plain.O κ).length = j := by rw [O_length]; exact hm
    rcases hvp with ⟨rfl, h0, _⟩ | ⟨ip, gp, rfl, hip, hgp1, _⟩
    ·left
     refine ⟨by omega, ⟨_, hat⟩, ?_⟩
     have h1 : d.plain.O κ = [] := List.eq_nil_of_length_eq_zero (by omega)
     have h2 : j = 0 := by omega
     subst h2
     rw [h1]
     exact hS
    ·right
     refine ⟨_, (List.range j).map (fun i : Nat => (i : Int)), ip, gp, PL.length, PL.map Rw.sv, _, hat, by simp, by omega, ?_, hdio, fun e => hS.disj (i := 7) (j := 5) rfl rfl (by decide) id rfl (by rw [e]; rfl), hio, hip, by simp, fun z hz => ?_, fun v hv => ?_, fun zs' hp hs => ?_⟩
     ·rw [List.take_of_length_le (by simp), intCells, List.map_map]; rfl
     ·obtain ⟨i, hi, rfl⟩ := List.mem_map.1 hz
      rw [List.mem_range] at hi
      omega
     ·obtain ⟨r, hr, rfl⟩ := List.mem_map.1 hv
      have hrl : r.l ∈ unis d.plain (d.plain.G κ) := hPL ▸ List.mem_map.2 ⟨r, hr, rfl⟩
      obtain ⟨g, hg, hge⟩ := List.getElem_of_mem hrl
      have hg2 : g < (d.plain.G κ).length := by simpa [unis] using hg
      have hnn := unis_ne hok hne hK hg2
      rw [show (unis d.plain (d.plain.G κ)).getD g [] = r.l by rw [← hge]; simp [List.getD_eq_getElem?_getD, hg]] at hnn
      obtain ⟨rl, rf⟩ := r
      cases rl with
      | nil => exact absurd rfl hnn
      | cons a l => exact ⟨l.length + 1, a.lo, a.hi, l.flatMap Span.av, rf, rfl, by omega⟩
     ·have hz : zs' = (d.plain.O κ).map fun i : Nat => (i : Int) := by
       have h1 := ord_of (m := (d.plain.G κ).length) (key := fun g => loOf ((unis d.plain (d.plain.G κ)).getD g [])) (zs := zs') (by rw [hm]; exact hp) (by
        refine List.Pairwise.imp_of_mem (fun {a b} ha hb hab => ?_) hs
        have key : ∀ {a : Int}, a ∈ zs' → loCell ((PL.map Rw.sv).getD a.toNat .undef) = loOf ((unis d.plain (d.plain.G κ)).getD a.toNat []) := fun {a} ha => by
         have ha2 := hp.mem_iff.1 ha
         obtain ⟨i, hi, rfl⟩ := List.mem_map.1 ha2
         rw [List.mem_range] at hi
         obtain ⟨r, hr⟩ := ex_get (l := PL) (i := i) (by omega)
         rw [← hPL]
         simp only [List.getD_eq_getElem?_getD, List.getElem?_map, Int.toNat_natCast, hr, Option.map_some, Option.getD_some]
         obtain ⟨rl, rf⟩ := r
         cases rl <;> rfl
        rw [key ha, key hb] at hab
        exact hab) (lo_inj hok hne hK)
       exact h1
      have hS2 := hS.put 7 (.cells 1 ((d.plain.O κ).map natV)) rfl
      have e9 : intCells zs' ++ ((List.range j).map natV).drop j = (d.plain.O κ).map natV := by
       rw [List.drop_of_length_le (by simp), List.append_nil, hz, intCells, List.map_map]; rfl
      rw [e9]
      exact hS2
   repeat' first | refine st_nil ?_ | (refine gw ?_; first | refine st_mv rx_ ?_ | (refine g3 ?_; first | refine st_bin_t1 rx_ ?_ | refine st_bin_t2 rx_ ?_ | (refine st_lss rfl rfl rfl ?_ ?_ <;> (intro hc; try (exfalso; omega)))) | refine st_call rfl nt_ ?_ | refine st_mkfn (vs := [AV.ptr _ _ _]) rfl rfl ?_) | (refine gx ?_; first | refine sx_seq ?_ | refine sx_ops rfl ?_ | refine sx_exit ?_ | refine sx_cond_f rfl ?_) | refine sk_norm ?_ | refine sk_exit ?_ | refine bk_exit ?_ | refine lk_exit ?_
   refine call_any hsort ?_
   clear hsort hS hat hvp hio
   rintro _ h2 hS
   have hOl : (d.plain.O κ).length = j := by rw [O_length]; exact hm
   have hCl : (d.plain.cols κ).length = j := by rw [cols_length]; exact hm
   repeat' first | refine st_nil ?_ | (refine gw ?_; first | refine st_mv rx_ ?_ | (refine g6 ?_; first | refine st_len_t rx_ ?_ | refine st_len_own rfl ?_)) | (refine gx ?_; first | refine sx_seq ?_ | refine sx_ops rfl ?_ | refine sx_block ?_) | refine sk_norm ?_
   refine sx_for j (fun i env h' => ∃ vpp ws, Sep h' (joinCS h i4 im inx io d.next.l.length ws ((rowsAt d.plain.next d.next.l.length ((d.plain.cols κ).take i) ((d.plain.cols κ).take i) 0).map iC) d.tags.iv vp vk ((d.plain.G κ).map (headT κ d.plain.row Ls)) PL ((d.plain.G κ).map fun ks => ks.headD 0) ++ [cCell id (.cells 1 ((d.plain.O κ).map natV)), cRow vpp 1 i (((d.plain.O κ).take i).map fun g => (PL.getD g ⟨[], false⟩).sv)]) ∧ env.has [(0, .ptr iw 0 0), (4, .ptr i4 0 0), (6, .ptr io 0 0), (7, vk), (18, vpp), (144, .own id 1 1 0 j none), (145, .int .i64 j), (146, .int .i64 i)]) ⟨_, List.replicate d.next.l.length (.rd 0 [] true), ?_, hh_⟩ ?_
   ·have e1 : (rowsAt d.plain.next d.next.l.length ((d.plain.cols κ).take 0) ((d.plain.cols κ).take 0) 0).map iC = List.replicate d.next.l.length [] := by
     refine List.ext_getElem (by simp [rowsAt]) fun q h1 h2 => ?_
     simp [rowsAt]
    rw [e1]
    exact hS.nil 1
   clear hS
   rintro i env h' hi ⟨vpp, ws, hS, he⟩
   obtain ⟨env, rfl⟩ := he.ex
   clear he
   have hold := hS.get (i := 0) rfl
   have hio : h'.get io = some (.cells 0 [vp, .own inx 1 1 0 d.next.l.length none, d.tags.iv]) := hS.get (i := 4) rfl
   have hvp : IsRow h' vp 1 PL.length (PL.map Rw.sv) := hS.get (i := 5) rfl
   have hord : h'.get id = some (.cells 1 ((d.plain.O κ).map natV)) := hS.get (i := 7) rfl
   have hvpp : IsRow h' vpp 1 i _ := hS.get (i := 8) rfl
   have hnpp := hvpp.notTup
   by_cases hi2 : i < j
   ·obtain ⟨g, hg⟩ := ex_get (l := d.plain.O κ) (i := i) (by omega)
    have hgl : g < (d.plain.G κ).length := ordL_mem.1 (List.mem_of_getElem? hg)
    obtain ⟨pg, hpg⟩ := ex_get (l := PL) (i := g) (by omega)
    have hpgd : PL.getD g ⟨[], false⟩ = pg := by simp [List.getD_eq_getElem?_getD, hpg]
    repeat' first | refine st_nil ?_ | (refine gw ?_; first | refine st_mv rx_ ?_ | (refine g2 ?_; first | refine st_load_t rx_ ?_ | refine st_load_map (g := _) rfl hq_ hg eq_ ?_ | refine st_load_map (g := _) rfl hq_ hpg eq_ ?_ | refine st_load_p rfl hq_ (by simp) b_ pv_ ?_) | (refine g3 ?_; first | refine st_bin_t1 rx_ ?_ | refine st_bin_t2 rx_ ?_ | (refine st_lss rfl rfl rfl ?_ ?_ <;> (intro hc; try (exfalso; omega)))) | (refine g5 ?_; first | refine st_index_t1 rx_ ?_ | refine st_index_t2 rx_ ?_ | refine st_index_own rfl rfl (by omega) (by omega) ?_ | (refine st_index_row rx_ (by assumption) rfl (by omega) (by omega) ?_; intro ir gr hvr hgr hgp; have hner := Heap.ne_of hgr; have hner2 := Heap.ne_of2 hgr)) | (refine g14 ?_; first | refine st_append_t1 rx_ ?_ | refine st_append_t2 rx_ ?_ | (refine st_append (m := 1) rx_ iq_ rfl rfl (by omega) ?_; intro va hpa hra hka hria)) | (refine g4 ?_; first | refine st_field_t rx_ ?_ | refine st_field_p rfl (Nat.zero_add _) ?_) | refine st_nilck_p rfl ?_ | refine st_lit (cs := [AV.rd _ _ _]) rfl rfl ?_) | (refine gx ?_; first | refine sx_seq ?_ | refine sx_ops rfl ?_ | refine sx_skip ?_ | refine sx_block ?_ | refine sx_cond_t rfl ?_) | refine sk_norm ?_
    have hS2 := hS.upd 8 (cRow va 1 (i + 1) ((((d.plain.O κ).take i).map fun g => (PL.getD g ⟨[], false⟩).sv) ++ [pg.sv])) rfl hra hka hria
    have hold2 := hS2.get (i := 0) rfl
    have hw2 : hpa.get iw = _ := (hold2 iw hiw).trans hw'
    clear hS hold hio hvp hord hvpp hnpp hra hka hria
    repeat' first | refine st_nil ?_ | (refine gw ?_; first | refine st_mv rx_ ?_ | (refine g6 ?_; first | refine st_len_t rx_ ?_ | refine st_len_rd rfl ?_) | refine st_load_p rfl hq_ (by simp) b_ pv_ ?_) | refine sx_block ?_ | refine sk_norm ?_
    obtain ⟨c, hc⟩ := ex_get (l := d.plain.cols κ) (i := i) (by omega)
    have hkg : ((d.plain.G κ).map fun ks => ks.headD 0)[g]? = some c := by
     have h1 : (d.plain.cols κ)[i]? = some (((d.plain.G κ).getD g []).headD 0) := by
      unfold PD.cols
      rw [List.getElem?_map, hg]; rfl
     rw [hc] at h1
     rw [Option.some.inj h1, List.getElem?_map, List.getElem?_eq_getElem hgl]
     simp [List.getD_eq_getElem?_getD, hgl]
    have hcp : c < d.parts.l.length := by
     have := (cols_lt hok hK (List.mem_of_getElem? hc)).1
     omega
    have htk : (d.plain.cols κ).take (i + 1) = (d.plain.cols κ).take i ++ [c] := take_snoc hc
    refine sx_for d.next.l.length (fun q env h' => ∃ ws, Sep h' (joinCS h i4 im inx io d.next.l.length ws ((rowsAt d.plain.next d.next.l.length ((d.plain.cols κ).take i) ((d.plain.cols κ).take i ++ [c]) q).map iC) d.tags.iv vp vk ((d.plain.G κ).map (headT κ d.plain.row Ls)) PL ((d.plain.G κ).map fun ks => ks.headD 0) ++ [cCell id (.cells 1 ((d.plain.O κ).map natV)), cRow va 1 (i + 1) ((((d.plain.O κ).take i).map fun g => (PL.getD g ⟨[], false⟩).sv) ++ [pg.sv])]) ∧ env.has [(0, .ptr iw 0 0), (4, .ptr i4 0 0), (6, .ptr io 0 0), (7, vk), (18, va), (20, .int .i64 g), (144, .own id 1 1 0 j none), (145, .int .i64 j), (146, .int .i64 i), (162, d.next.mv Rw.iv), (163, .int .i64 d.next.l.length), (164, .int .i64 q)]) ⟨ws, by rw [rowsAt_zero _ _ _ _ ((d.plain.cols κ).take i)]; exact hS2, hh_⟩ ?_
    clear hS2 hold2 hw2
    rintro q env h' hq ⟨ws, hS, he⟩
    obtain ⟨env, rfl⟩ := he.ex
    clear he
    have hio : h'.get io = some (.cells 0 [vp, .own inx 1 1 0 d.next.l.length none, d.tags.iv]) := hS.get (i := 4) rfl
    have hvk : IsRow h' vk 1 _ _ := hS.get (i := 6) rfl
    have hgr : GridAt h' inx ws _ := hS.get (i := 3) rfl
    have hwl := hgr.len
    rw [List.length_map, rowsAt_length] at hwl
    rw [List.length_map] at hvk
    by_cases hq2 : q < d.next.l.length
    ·obtain ⟨r, hr⟩ := ex_get hq2
     obtain ⟨w, hw⟩ := ex_get (l := ws) (i := q) (by omega)
     have hrl := hf.rows r (List.mem_of_getElem? hr)
     obtain ⟨x, hx⟩ := ex_get (l := r.l) (i := c) (by omega)
     have hrx : (d.plain.next.getD q []).getD c (-1) = x := by
      have : d.plain.next.getD q [] = r.l := by simp [Dfa.plain, plainI, List.getD_eq_getElem?_getD, hr]
      rw [this]; simp [List.getD_eq_getElem?_getD, hx]
     have hat := hgr.at_
     have hrow := hgr.row hw (by rw [List.getElem?_map, rowsAt_get hq2]; rfl)
     rw [List.length_map, List.length_map, List.length_take] at hrow
     have hmin : min i (d.plain.cols κ).length = i := by omega
     rw [hmin] at hrow
     repeat' first | refine st_nil ?_ | (refine gw ?_; first | refine st_mv rx_ ?_ | (refine g2 ?_; first | refine st_load_t rx_ ?_ | refine st_load_raw (g := _) rfl hq_ hw eq_ (by simp) ?_ | refine st_load_map (g := _) rfl hq_ hkg eq_ ?_ | refine st_load_r rfl b_ pv_ ?_ | refine st_load_p rfl hq_ (by simp) b_ pv_ ?_) | (refine g3 ?_; first | refine st_bin_t1 rx_ ?_ | refine st_bin_t2 rx_ ?_ | (refine st_lss rfl rfl rfl ?_ ?_ <;> (intro hc; try (exfalso; omega)))) | (refine g5 ?_; first | refine st_index_t1 rx_ ?_ | refine st_index_t2 rx_ ?_ | refine st_index_map' rfl rfl hr (by omega) rfl ?_ | refine st_index_map' rfl rfl hx (by omega) rfl ?_ | refine st_index_own rfl rfl (by omega) (by omega) ?_ | (refine st_index_row rx_ (by assumption) rfl (by omega) (by omega) ?_; intro ir gr hvr hgr hgp; have hner := Heap.ne_of hgr; have hner2 := Heap.ne_of2 hgr)) | (refine g13 ?_; first | refine st_store_t1 rx_ ?_ | refine st_store_t2 rx_ ?_) | (refine g14 ?_; first | refine st_append_t1 rx_ ?_ | refine st_append_t2 rx_ ?_ | (refine st_append (m := 1) rx_ iq_ rfl rfl (by omega) ?_; intro va hpa hra hka hria)) | (refine g4 ?_; first | refine st_field_t rx_ ?_ | refine st_field_p rfl (Nat.zero_add _) ?_) | refine st_lit (cs := [AV.int _ _]) rfl rfl ?_) | (refine gx ?_; first | refine sx_seq ?_ | refine sx_ops rfl ?_ | refine sx_skip ?_ | refine sx_block ?_ | refine sx_cond_t rfl ?_) | refine sk_norm ?_
     obtain ⟨hS2, hg2⟩ := hS.gput 3 (j := q) (r := iC (((d.plain.cols κ).take i).map fun k => (d.plain.next.getD q []).getD k (-1)) ++ [.int .i64 x]) rfl hw (by
      rw [List.length_append, List.length_map, List.length_map, List.length_take, hmin]
      exact hra) hka hria
     refine st_store_row (v := va) (cs' := ws.set q va) rfl rfl hra hg2 (by omega) (by rw [show (0 + (q : Int).toNat) * 1 = q by omega]) ?_
     repeat' first | refine st_nil ?_ | (refine gw ?_; first | refine st_mv rx_ ?_ | (refine g3 ?_; first | refine st_bin_t1 rx_ ?_ | refine st_add rfl rfl rfl (by omega) (by omega) ?_)) | refine sx_ops rfl ?_ | refine sk_norm ?_ | refine bk_norm ?_
     refine lk_next hq2 ⟨ws.set q va, ?_, hh_⟩
     have e4 : iC (((d.plain.cols κ).take i).map (fun k => (d.plain.next.getD q []).getD k (-1)) ++ [(d.plain.next.getD q []).getD c (-1)]) = iC (((d.plain.cols κ).take i).map fun k => (d.plain.next.getD q []).getD k (-1)) ++ [.int .i64 x] := by
      rw [hrx]; simp [iC]
     rw [← rowsAt_set hq2, List.map_set, e4]
     exact hS2
    ·have hq3 : q = d.next.l.length := by omega
     subst hq3
     rw [rowsAt_end, ← htk] at hS
     repeat' first | refine st_nil ?_ | (refine gw ?_; first | refine st_mv rx_ ?_ | (refine g3 ?_; first | refine st_bin_t1 rx_ ?_ | refine st_bin_t2 rx_ ?_ | refine st_add rfl rfl rfl (by omega) (by omega) ?_ | (refine st_lss rfl rfl rfl ?_ ?_ <;> (intro hc; try (exfalso; omega))))) | (refine gx ?_; first | refine sx_seq ?_ | refine sx_ops rfl ?_ | refine sx_exit ?_ | refine sx_cond_f rfl ?_) | refine sk_norm ?_ | refine sk_exit ?_ | refine bk_norm ?_ | refine bk_exit ?_ | refine lk_exit ?_
     refine lk_next hi2 ⟨va, ws, ?_, hh_⟩
     rw [take_snoc hg, List.map_append, List.map_singleton, hpgd]
     exact hS
   ·have hi3 : i = j := by omega
    subst hi3
    rw [List.take_of_length_le (by omega), List.take_of_length_le (by omega)] at hS
    rw [List.take_of_length_le (by omega)] at hvpp
    have hres : h'.get i4 = some nil3 := hS.get (i := 1) rfl
    repeat' first | refine st_nil ?_ | (refine gw ?_; first | refine st_mv rx_ ?_ | refine st_load_t rx_ ?_ | (refine g3 ?_; first | refine st_bin_t1 rx_ ?_ | refine st_bin_t2 rx_ ?_ | (refine st_lss rfl rfl rfl ?_ ?_ <;> (intro hc; try (exfalso; omega)))) | (refine g13 ?_; first | refine st_store_t1 rx_ ?_ | refine st_store_t2 rx_ ?_ | refine st_store_row rfl rx_ (by assumption) hq_ b_ (by first | (simp only [List.set_cons_zero, List.set_cons_succ] <;> exact rfl) | exact rfl) ?_) | (refine g4 ?_; first | refine st_field_t rx_ ?_ | refine st_field_p rfl (Nat.zero_add _) ?_)) | (refine gx ?_; first | refine sx_seq ?_ | refine sx_ops rfl ?_ | refine sx_exit ?_ | refine sx_cond_f rfl ?_) | refine sk_norm ?_ | refine sk_exit ?_ | refine bk_exit ?_ | refine lk_exit ?_
    have hS2 := hS.put 4 (.cells 0 [vpp, .own inx 1 1 0 d.next.l.length none, d.tags.iv]) rfl
    have hio2 : (h'.set io (.cells 0 [vpp, .own inx 1 1 0 d.next.l.length none, d.tags.iv])).get io = some (.cells 0 [vpp, .own inx 1 1 0 d.next.l.length none, d.tags.iv]) := hS2.get (i := 4) rfl
    have hres2 : (h'.set io (.cells 0 [vpp, .own inx 1 1 0 d.next.l.length none, d.tags.iv])).get i4 = some nil3 := hS2.get (i := 1) rfl
    repeat' first | refine st_nil ?_ | (refine gw ?_; first | (refine g13 ?_; first | refine st_store_t1 rx_ ?_ | refine st_store_t2 rx_ ?_ | refine st_store_p (v := AV.agg _) rfl rfl hq_ rfl rfl b_ sv_ ?_) | refine st_load_p rfl hq_ (by simp) b_ pv_ ?_) | refine sx_ret ?_ | refine sk_norm ?_
    have hS3 := hS2.put 1 (.cells 0 [vpp, .own inx 1 1 0 d.next.l.length none, d.tags.iv]) rfl
    have hvpp3 : IsRow _ vpp 1 i _ := hS3.get (i := 8) rfl
    have hgr3 : GridAt _ inx ws _ := hS3.get (i := 3) rfl
    have hfz := hgr3.fz (S := fun k => inGrid inx ws k ∨ vpp.rowId = some k) (lim := none) fun _ h => .inl h
    rw [List.length_map, rowsAt_length] at hfz
    refine fin_ret_fz (fun k => inGrid inx ws k ∨ vpp.rowId = some k) (res_cell rfl (Heap.get_set_self _ _ _) rfl) (.agg (.cons (hvpp3.fz _ (fun _ h => .inr h) (FzL.same _)) (.cons hfz (.cons (.same _) .nil)))) ⟨⟨(d.plain.O κ).map fun g => PL.getD g ⟨[], false⟩, ?_, ?_⟩, fun k hk => ?_⟩
    ·rw [← hPL, List.map_map]
     apply List.map_congr_left
     intro g hg
     have hgl : g < PL.length := by rw [hPLl]; exact Nat.lt_of_lt_of_eq (ordL_mem.1 hg) hm
     exact (getD_map' (fun x : Rw Span => x.l) PL g ⟨[], false⟩ [] hgl).symm
    ·rw [List.length_map, hOl, List.map_map, List.map_map, List.map_map]
     congr 3
     unfold rowsAt
     rw [List.map_map]
     congr 1
     apply List.map_congr_left
     intro q hq
     rw [List.mem_range] at hq
     simp only [Function.comp, Nat.not_lt_zero, if_false]
     rw [show (iC ((d.plain.cols κ).map fun k => (d.plain.next.getD q []).getD k (-1))).length = (d.plain.R2 κ q).length by simp [PD.R2]]
     rfl
    ·have h1 : ¬ (inGrid inx ws k ∨ vpp.rowId = some k) := by
      rintro (h1 | h1)
      ·exact hS3.disj (i := 0) (j := 3) rfl rfl (by decide) k hk h1
      ·exact hS3.disj (i := 0) (j := 8) rfl rfl (by decide) k hk h1
     simp only [Heap.drop]
     rw [if_neg h1]
     exact hS3.get (i := 0) rfl k hk
end Go.Proofs.YtpcbpgepjfenhaaGreatDoor
