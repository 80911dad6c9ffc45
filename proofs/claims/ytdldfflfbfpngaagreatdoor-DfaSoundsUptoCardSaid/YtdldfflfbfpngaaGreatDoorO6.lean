/- A machine at one place, of one that is at many: walked. -/
import Derived.Test.YtdldfflfbfpngaaGreatDoorO5
set_option linter.unusedVariables false
set_option linter.unusedSimpArgs false
namespace Go.Proofs.YtdldfflfbfpngaaGreatDoor
open Go
set_option maxHeartbeats 4000000
def flat0 (P : List (Rw Span)) : List (Rw Span) := P.map fun p => ⟨p.l, false⟩
theorem termsR_plain (S : List (Rw Span)) : (termsR S).l = flat0 (ofR S).l := by
 show (partsT (normR S) (edgeE (normR S))).map (fun l => (⟨l, false⟩ : Rw Span)) = _
 rw [partsT_ok (edgeE_ok (normR_norm S)), List.map_map]
 rfl
theorem rowL_flat (n : Nfa) (P : List (Rw Span)) (a : List Int) : rowL n (flat0 P) a = rowL n P a := by
 unfold rowL flat0
 rw [List.map_map]
 rfl
theorem accL_flat (n : Nfa) (P : List (Rw Span)) : ∀ i, accL n (flat0 P) i = accL n P i
 | 0 => rfl
 | i + 1 => by
  rw [accL, accL, accL_flat n P i]
  cases (accL n P i)[i]? with
  | none => rfl
  | some a => simp only [rowL_flat]
theorem plainS_flat (P : List (Rw Span)) : plainS (flat0 P) = plainS P := by
 unfold plainS flat0
 rw [List.map_map]
 rfl
theorem mkPD_flat (n : Nfa) (P : List (Rw Span)) (m : Nat) : mkPD n (flat0 P) m = mkPD n P m := by
 unfold mkPD rowsL
 simp only [accL_flat, plainS_flat, rowL_flat]
theorem Ats.flat {S P : List (Rw Span)} (h : Ats S P) : Ats S (flat0 P) := by
 refine ⟨fun q hq => ?_, ?_, fun x y hx hy hxy q hq => ?_⟩
 ·obtain ⟨p, hp, rfl⟩ := List.mem_map.1 hq
  exact h.good p hp
 ·unfold flat0
  rw [List.pairwise_map]
  exact h.apart
 ·obtain ⟨p, hp, rfl⟩ := List.mem_map.1 hq
  exact h.same x y hx hy hxy p hp
theorem step1_range {n : Nfa} {a : List Int} {r x : Int} (h : x ∈ step1 n a r) : 0 ≤ x ∧ x < n.k := by
 unfold step1 at h
 split at h
 ·have := mem_closeN' h
  exact ⟨this.1, this.2.1⟩
 ·cases h
theorem start1_range {n : Nfa} {x : Int} (h : x ∈ start1 n) : 0 ≤ x ∧ x < n.k := by
 unfold start1 at h
 split at h
 ·have := mem_closeN' h
  exact ⟨this.1, this.2.1⟩
 ·cases h
theorem Sep.addF {h h' : Heap} {cs : List Chunk} (hS : Sep h cs) (c : Chunk) (hc : c.holds h') (ho : ∀ k, h.get k ≠ none → h'.get k = h.get k) (hf : ∀ k, c.foot k → h.get k = none) : Sep h' (c :: cs) := by
 refine ⟨fun d hd => ?_, List.pairwise_cons.2 ⟨fun d hd k hk hk2 => d.there (hS.all d hd) k hk2 (hf k hk), hS.apart⟩⟩
 rcases List.mem_cons.1 hd with rfl | hd
 ·exact hc
 ·exact d.keep (hS.all d hd) fun k hk => ho k (d.there (hS.all d hd) k hk)
theorem Sep.rowF {h : Heap} {cs : List Chunk} (hS : Sep h cs) {id n : Nat} {rs : List AV} (hid : h.get id = none) (hl : rs.length = n) : Sep (h.set id (.cells 1 rs)) (cRow (.own id 1 1 0 n none) 1 n rs :: cs) := by
 refine hS.addF _ (.inr ⟨id, 1, rfl, Heap.get_set_self _ _ _, Nat.le_refl _, by omega⟩) (fun k hk => Heap.get_set_ne _ _ fun e => hk (e ▸ hid)) fun k hk => ?_
 have hk2 : some id = some k := hk
 injection hk2 with e
 rw [← e]; exact hid
theorem Sep.nilF {h : Heap} {cs : List Chunk} (hS : Sep h cs) (e : Nat) : Sep h (cRow (.rd 0 [] true) e 0 [] :: cs) := hS.addF _ (IsRow.nil _ _) (fun _ _ => rfl) (fun k hk => by cases hk)
theorem Sep.perm {h : Heap} {cs ds : List Chunk} (hS : Sep h cs) (hp : cs.Perm ds) : Sep h ds :=
 ⟨fun d hd => hS.all d (hp.mem_iff.2 hd), hS.apart.perm hp fun {c d} hcd k hk hk2 => hcd k hk2 hk⟩
theorem IsRow.own_get {h : Heap} {id g e n : Nat} {cs : List AV} (hr : IsRow h (.own id g e 0 n none) e n cs) : h.get id = some (.cells g cs) ∧ 1 ≤ g := by
 rcases hr with ⟨e, _⟩ | ⟨id', g', e, h1, h2, _⟩
 ·cases e
 ·injection e with e1 e2
  subst e1 e2
  exact ⟨h1, h2⟩
theorem visitL_len (B : List (List Int)) (to : List Int) : B.length ≤ (visitL B to).length ∧ (visitL B to).length ≤ B.length + 1 := by
 unfold visitL
 split
 ·omega
 ·simp
theorem placeL_in (B : List (List Int)) (to : List Int) : placeL B to = -1 ∨ In (visitL B to).length (placeL B to) := by
 by_cases h0 : to = []
 ·left; simp [placeL, h0]
 ·right
  have h1 : placeL B to = (B.idxOf to : Nat) := by simp [placeL, h0]
  rw [h1]
  unfold In
  by_cases h2 : to ∈ B
  ·have h3 := List.idxOf_lt_length_of_mem h2
   have h4 := (visitL_len B to).1
   omega
  ·have h3 : visitL B to = B ++ [to] := by simp [visitL, h0, h2]
   rw [List.idxOf_eq_length h2, h3]
   simp
   omega
theorem start1_ne {n : Nfa} (hn : n.Ok) : start1 n ≠ [] := by
 have h0 : (0 : Int) ∈ start1 n := by
  unfold start1
  rw [if_pos (sound_ok_iff.2 hn)]
  have hk : 0 < n.k := hn.pos
  exact (mem_closeN hn (fun i hi => by omega)).2 ⟨Int.le_refl _, .base rfl⟩
 intro e
 rw [e] at h0
 cases h0
attribute [local irreducible] wops xcode wcode seqK blockK loopK finK wcall wop wstp Runs
set_option maxRecDepth 100000 in
theorem dof_ok {Φ : Lib} (L : LibC3 Φ) (L1 : C1Lib Φ) (SL : SortLib Φ) (L5 : LibC5 Φ) (KL : KeyLib Φ) (n : Nfa) (hn : n.Ok) (hf : n.Fits) (hsm : n.Small) (m : Nat) (hm1 : 1 ≤ m) (hm2 : m ≤ 2000) :
  Runs Φ 169 [.agg n.av, .int .i64 m] Heap.empty (fun v _ => (m < (accL n (ofR (setsT n.edges.l)).l m).length ∧ v = .tup [.agg [.rd 0 [] true, .rd 0 [] true, .rd 0 [] true], .int .u16 63]) ∨ ((accL n (ofR (setsT n.edges.l)).l m).length ≤ m ∧ ∃ d : Dfa, v = .tup [.agg d.av, .int .u16 0] ∧ d.plain = mkPD n (ofR (setsT n.edges.l)).l m ∧ d.plain.Ok ∧ d.Wide ∧ ∀ t ∈ d.tags.l, -1 ≤ t ∧ t ≤ 5)) := by
 rw [← accL_flat, ← mkPD_flat, ← termsR_plain]
 have hsd := sound_ok L1 SL n hf
 rw [sound_ok_iff.2 hn] at hsd
 have hst := start_ok L1 SL n hf
 have hsl := start1_len n
 have hkn : n.k ≤ 2000 := hn.most
 have hcnt := hsm.cnt
 rw [← setsT_length] at hcnt
 have hEl := hf.edges
 refine runs_of (fun o => o == some 52 || o == some 108) rfl L5.f169 ?_
 repeat' first | refine st_nil ?_ | (refine gw ?_; first | refine st_mv rx_ ?_ | (refine gq2 ?_; first | refine st_load_t rx_ ?_ | refine st_load_p rfl hg_ (by simp) b_ pv_ ?_) | (refine gq3 ?_; first | refine st_bin_t1 rx_ ?_ | (refine st_lss rfl rfl rfl ?_ ?_ <;> (intro hc; try (exfalso; omega))) | (refine st_gtr rfl rfl rfl ?_ ?_ <;> (intro hc; try (exfalso; omega)))) | (refine gq6 ?_; first | refine st_len_t rx_ ?_ | refine st_len_rd rfl ?_) | (refine gq4 ?_; first | refine st_field_t rx_ ?_ | refine st_field_p rfl (Nat.zero_add _) ?_) | refine st_gog rfl ?_ | refine st_pick_f (v := AV.bool _) rfl rfl ?_ | refine st_call rfl nt_ ?_ | (refine st_alloc ?_; intro id hid; try simp only [Heap.set_none] at hid) | (refine st_box (v := AV.agg _) rfl rfl ?_; intro id hid; try simp only [Heap.set_none] at hid) | refine st_build rfl ?_ | refine st_not (b := true) rfl ?_ | (refine st_mkmap ?_; intro id hid; try simp only [Heap.set_none] at hid)) | (refine gx ?_; first | refine sx_seq ?_ | refine sx_ops rfl ?_ | refine sx_skip ?_ | refine sx_block ?_ | refine sx_cond_f rfl ?_) | refine sk_norm ?_ | refine call_pure (by assumption) fz_ fz_ ?_
 rename_i ib hib i4 hi4 hc1 im him
 obtain ⟨iM, rfl⟩ : ∃ x, x = id := ⟨_, rfl⟩
 have hiM := hid
 have g1 : (Heap.empty.set ib (.cells 0 n.av)).get i4 = none := by rw [Heap.get_set_ne _ _ hi4.1]; exact hi4.2
 have g2 : ((Heap.empty.set ib (.cells 0 n.av)).set i4 nil3).get im = none := by rw [Heap.get_set_ne _ _ him.1, Heap.get_set_ne _ _ him.2.1]; exact him.2.2
 have g3 : (((Heap.empty.set ib (.cells 0 n.av)).set i4 nil3).set im (.map none [])).get iM = none := by rw [Heap.get_set_ne _ _ hiM.1, Heap.get_set_ne _ _ hiM.2.1, Heap.get_set_ne _ _ hiM.2.2.1]; exact hiM.2.2.2
 have hS0 : Sep _ [cOld Heap.empty, cCell ib (.cells 0 n.av), cCell i4 nil3, cCell im (.map none (entA [])), cCell iM (.cells 0 (mkC n (.rd 0 [] true) (.rd 0 [] true) (.rd 0 [] true) im (.rd 0 [] true))), cRow (.rd 0 [] true) 1 0 []] := (((((Sep.old Heap.empty).new (o := .cells 0 n.av) hib).new (id := i4) (o := nil3) g1).new (id := im) (o := .map none []) g2).new (id := iM) (o := .cells 0 (mkC n (.rd 0 [] true) (.rd 0 [] true) (.rd 0 [] true) im (.rd 0 [] true))) g3).nil 1
 refine sx_for n.edges.l.length (fun i env h' => ∃ v, Sep h' [cOld Heap.empty, cCell ib (.cells 0 n.av), cCell i4 nil3, cCell im (.map none (entA [])), cCell iM (.cells 0 (mkC n (.rd 0 [] true) (.rd 0 [] true) (.rd 0 [] true) im (.rd 0 [] true))), cRow v 1 (setsT (n.edges.l.take i)).length ((setsT (n.edges.l.take i)).map Rw.sv)] ∧ env.has [(1, .int .i64 m), (2, .ptr ib 0 0), (4, .ptr i4 0 0), (6, .ptr iM 0 0), (7, v), (33, n.edges.mv Rw.ev), (34, .int .i64 n.edges.l.length), (35, .int .i64 i)]) ⟨_, hS0, hh_⟩ ?_
 clear hS0 g1 g2 g3 hid
 rintro i env h' hi ⟨v, hS, he⟩
 have hb : h'.get ib = some (.cells 0 n.av) := hS.get (i := 1) rfl
 have hr6 : IsRow h' v 1 _ _ := hS.get (i := 5) rfl
 have hnt := hr6.notTup
 obtain ⟨env, rfl⟩ := he.ex
 clear he
 by_cases hi2 : i < n.edges.l.length
 ·obtain ⟨r, hr⟩ := ex_get hi2
  have hsn := setsT_snoc hr
  have hle := setsT_take_le n.edges.l (i + 1)
  have hl2 : (setsT (n.edges.l.take (i + 1))).length = (setsT (n.edges.l.take i)).length + r.l.length := by rw [hsn, List.length_append, List.length_map]
  repeat' first | refine st_nil ?_ | (refine gw ?_; first | refine st_mv rx_ ?_ | (refine gq2 ?_; first | refine st_load_t rx_ ?_ | refine st_load_r rfl b_ pv_ ?_) | (refine gq3 ?_; first | refine st_bin_t1 rx_ ?_ | refine st_bin_t2 rx_ ?_ | (refine st_lss rfl rfl rfl ?_ ?_ <;> (intro hc; try (exfalso; omega)))) | (refine gq5 ?_; first | refine st_index_t1 rx_ ?_ | refine st_index_t2 rx_ ?_ | refine st_index_map' rfl rfl hr (by omega) rfl ?_) | (refine gq6 ?_; first | refine st_len_t rx_ ?_ | refine st_len_rd rfl ?_)) | (refine gx ?_; first | refine sx_seq ?_ | refine sx_ops rfl ?_ | refine sx_skip ?_ | refine sx_block ?_ | refine sx_cond_t rfl ?_) | refine sk_norm ?_
  refine sx_for r.l.length (fun j env h' => ∃ v, Sep h' [cOld Heap.empty, cCell ib (.cells 0 n.av), cCell i4 nil3, cCell im (.map none (entA [])), cCell iM (.cells 0 (mkC n (.rd 0 [] true) (.rd 0 [] true) (.rd 0 [] true) im (.rd 0 [] true))), cRow v 1 ((setsT (n.edges.l.take i)).length + j) ((setsT (n.edges.l.take i) ++ (r.l.take j).map fun e => e.set).map Rw.sv)] ∧ env.has [(1, .int .i64 m), (2, .ptr ib 0 0), (4, .ptr i4 0 0), (6, .ptr iM 0 0), (7, v), (33, n.edges.mv Rw.ev), (34, .int .i64 n.edges.l.length), (35, .int .i64 i), (39, r.ev), (40, .int .i64 r.l.length), (41, .int .i64 j)]) ⟨v, by simpa using hS, hh_⟩ ?_
  clear hS hb hr6 hnt
  rintro j env h' hj ⟨v, hS, he⟩
  have hr6 : IsRow h' v 1 _ _ := hS.get (i := 5) rfl
  have hnt := hr6.notTup
  obtain ⟨env, rfl⟩ := he.ex
  clear he
  by_cases hj2 : j < r.l.length
  ·obtain ⟨e, he⟩ := ex_get hj2
   repeat' first | refine st_nil ?_ | (refine gw ?_; first | refine st_mv rx_ ?_ | (refine gq2 ?_; first | refine st_load_t rx_ ?_ | refine st_load_ra rfl (by first | rfl | (simp [*]; done) | fail) ?_ | refine st_load_p rfl hg_ (by simp) b_ pv_ ?_) | (refine gq3 ?_; first | refine st_bin_t1 rx_ ?_ | refine st_bin_t2 rx_ ?_ | refine st_add rfl rfl rfl (by omega) (by omega) ?_ | (refine st_lss rfl rfl rfl ?_ ?_ <;> (intro hc; try (exfalso; omega)))) | (refine gq5 ?_; first | refine st_index_t1 rx_ ?_ | refine st_index_t2 rx_ ?_ | refine st_index_flat' rfl fl_ rfl he (by omega) rfl ?_) | (refine gq13 ?_; first | refine st_store_t1 rx_ ?_ | refine st_store_t2 rx_ ?_ | refine st_store_s (cs' := [AV.int _ _, AV.rd _ _ _]) rfl rfl rfl rfl b_ rfl ?_) | (refine gq14 ?_; first | refine st_append_t1 rx_ ?_ | refine st_append_t2 rx_ ?_ | (refine st_append (m := 1) rx_ ir_ rfl rfl (by omega) ?_; intro va hpa hra hka hria)) | (refine gq4 ?_; first | refine st_field_t rx_ ?_ | refine st_field_p rfl (Nat.zero_add _) ?_) | (refine st_alloc ?_; intro id hid; try simp only [Heap.set_none] at hid) | refine st_lit (cs := [AV.rd _ _ _]) rfl rfl ?_) | (refine gx ?_; first | refine sx_seq ?_ | refine sx_ops rfl ?_ | refine sx_skip ?_ | refine sx_block ?_ | refine sx_cond_t rfl ?_) | refine sk_norm ?_ | refine bk_norm ?_
   have hS1 : Sep (h'.set id (.cells 0 e.av)) _ := hS.ext fun k hk => Heap.get_set_ne _ _ (fun e => hk (e ▸ hid))
   have hS2 := hS1.upd 5 (cRow va 1 ((setsT (n.edges.l.take i)).length + (j + 1)) ((setsT (n.edges.l.take i) ++ (r.l.take j).map fun e => e.set).map Rw.sv ++ [e.set.sv])) rfl hra hka hria
   have e1 : (setsT (n.edges.l.take i) ++ (r.l.take (j + 1)).map fun e => e.set).map Rw.sv = (setsT (n.edges.l.take i) ++ (r.l.take j).map fun e => e.set).map Rw.sv ++ [e.set.sv] := by
    rw [take_snoc he]
    simp
   refine lk_next hj2 ⟨va, ?_, hh_⟩
   rw [e1]
   exact hS2
  ·have hj3 : j = r.l.length := by omega
   subst hj3
   repeat' first | refine st_nil ?_ | (refine gw ?_; first | refine st_mv rx_ ?_ | (refine gq3 ?_; first | refine st_bin_t1 rx_ ?_ | refine st_bin_t2 rx_ ?_ | refine st_add rfl rfl rfl (by omega) (by omega) ?_ | (refine st_lss rfl rfl rfl ?_ ?_ <;> (intro hc; try (exfalso; omega))))) | (refine gx ?_; first | refine sx_seq ?_ | refine sx_ops rfl ?_ | refine sx_exit ?_ | refine sx_cond_f rfl ?_) | refine sk_norm ?_ | refine sk_exit ?_ | refine bk_norm ?_ | refine bk_exit ?_ | refine lk_exit ?_
   refine lk_next hi2 ⟨v, ?_, hh_⟩
   rw [hl2, hsn]
   rw [List.take_of_length_le (Nat.le_refl _)] at hS
   exact hS
 ·have hi3 : i = n.edges.l.length := by omega
  subst hi3
  rw [List.take_of_length_le (Nat.le_refl _)] at hr6 hS
  repeat' first | refine st_nil ?_ | (refine gq3 ?_; first | refine st_bin_t1 rx_ ?_ | refine st_bin_t2 rx_ ?_ | (refine st_lss rfl rfl rfl ?_ ?_ <;> (intro hc; try (exfalso; omega)))) | (refine gx ?_; first | refine sx_seq ?_ | refine sx_ops rfl ?_ | refine sx_exit ?_ | refine sx_cond_f rfl ?_) | refine sk_norm ?_ | refine sk_exit ?_ | refine bk_exit ?_ | refine lk_exit ?_
  refine sx_freeze 7 (v := v) rfl rfl hr6 ?_
  intro h1 hk1
  have hS1 := hS.drop 5 (h' := h1) rfl hk1
  clear hr6 hS hk1 hb
  have hb : h1.get ib = some (.cells 0 n.av) := hS1.get (i := 1) rfl
  have hM : h1.get iM = some (.cells 0 _) := hS1.get (i := 4) rfl
  have hset8 : ∀ s ∈ setsT n.edges.l, s.l.length ≤ 8 := fun s hs => by
   obtain ⟨r, hr, e, he, rfl⟩ := setsT_mem hs
   exact hsm.few r hr e he
  have hcat := catS_8 _ hset8
  have q1 := terms_ok L1 SL L5 KL ⟨setsT n.edges.l, false⟩ (by show (setsT n.edges.l).length ≤ _; omega) (fun s hs => by have := hset8 s hs; omega) (by show (catS (setsT n.edges.l)).length ≤ _; omega)
  have hat : Ats (setsT n.edges.l) (termsR (setsT n.edges.l)).l := by
   rw [termsR_plain]
   exact ((atoms_ok (setsT n.edges.l)).ats.sub (sortR_perm _)).flat
  have hPc := hat.cat
  have hPl := hat.count
  rw [edgesU_length] at hPc
  have hPc : (catS (termsR (setsT n.edges.l)).l).length ≤ 642 := by omega
  have hPl : (termsR (setsT n.edges.l)).l.length ≤ 642 := by omega
  simp only at q1
  generalize termsR (setsT n.edges.l) = P at *
  repeat' first | refine st_nil ?_ | (refine gw ?_; first | refine st_mv rx_ ?_ | (refine gq2 ?_; first | refine st_load_t rx_ ?_ | refine st_load_p rfl hg_ (by simp) b_ pv_ ?_) | (refine gq13 ?_; first | refine st_store_t1 rx_ ?_ | refine st_store_t2 rx_ ?_ | refine st_store_p (v := AV.rd _ _ _) rfl rfl hg_ rfl rfl b_ sv_ ?_) | (refine gq4 ?_; first | refine st_field_t rx_ ?_ | refine st_field_p rfl (Nat.zero_add _) ?_) | refine st_nilck_p rfl ?_ | refine st_call rfl nt_ ?_) | (refine gx ?_; first | refine sx_seq ?_ | refine sx_ops rfl ?_) | refine sk_norm ?_ | refine call_pure (by assumption) fz_ fz_ ?_
  have hS2 := hS1.put 4 (.cells 0 (mkC n (P.mv Rw.sv) (.rd 0 [] true) (.rd 0 [] true) im (.rd 0 [] true))) rfl
  have hS3 : Sep _ [cOld Heap.empty, cCell ib (.cells 0 n.av), cCell i4 nil3, cCell iM (.cells 0 (mkC n (P.mv Rw.sv) (.rd 0 [] true) (.rd 0 [] true) im (.rd 0 [] true))), cCell im (.map none (entA []))] := hS2.perm (.cons _ (.cons _ (.cons _ (.swap _ _ _))))
  have hS4 := (((hS3.nilF 1).nil 1).nil 1)
  clear hS1 hS2 hS3 hM hb
  refine call_any (dplace_ok L1 SL L L5 n hf (A := []) (vp := P.mv Rw.sv) (vn := .rd 0 [] true) (im := im) (c := cAll [cRow (.rd 0 [] true) 1 0 [], cOld Heap.empty, cCell ib (.cells 0 n.av), cCell i4 nil3]) (start1 n) (by omega) (fun x hx => by have := start1_range hx; omega) (by simp) (Sep.fold hS4)) ?_
  rintro _ h2 ⟨rfl, t0, v0, hS5⟩
  have hv0 : visitL [] (start1 n) = [start1 n] := by rw [visitL, if_neg (by simp [start1_ne hn])]; rfl
  rw [hv0] at hS5
  have hS6 := hS5.unfold
  clear hS4 hS5
  repeat' first | refine st_nil ?_ | refine st_mv rx_ ?_ | (refine gx ?_; first | refine sx_seq ?_ | refine sx_ops rfl ?_ | refine sx_block ?_) | refine sk_norm ?_
  refine sx_for m (fun i env h' => ∃ (vn t0 v0 : AV) (A rows : List (List Int)), i ≤ A.length ∧ A.length ≤ m ∧ 1 ≤ A.length ∧ rows.length = i ∧ (∀ a ∈ A, a.length ≤ n.k ∧ ∀ x ∈ a, 0 ≤ x ∧ x < n.k) ∧ (∀ r ∈ rows, r.length = P.l.length ∧ ∀ x ∈ r, x = -1 ∨ In A.length x) ∧ A = accL n P.l i ∧ rows = rowsL n P.l A i ∧ Sep h' [cRow vn 1 i (rows.map rowI), cOld Heap.empty, cCell ib (.cells 0 n.av), cCell i4 nil3, cCell iM (.cells 0 (mkC n (P.mv Rw.sv) vn t0 im v0)), cCell im (.map none (entA A)), cRow t0 1 A.length (tagC n A), cRow v0 1 A.length (A.map rowI)] ∧ env.has [(1, .int .i64 m), (2, .ptr ib 0 0), (4, .ptr i4 0 0), (6, .ptr iM 0 0), (12, .int .i64 i)]) ⟨_, _, _, [start1 n], [], by simp, by simpa using hm1, by simp, rfl, by simpa using ⟨hsl, fun x hx => start1_range hx⟩, by simp, rfl, by simp [rowsL], hS6, hh_⟩ ?_
  clear hS6
  rintro i env h' hi ⟨vn, t0, v0, A, rows, hiA, hA100, hA1, hrl, hAk, hrows, hAx, hrx, hS, he⟩
  have hM : h'.get iM = some (.cells 0 (mkC n (P.mv Rw.sv) vn t0 im v0)) := hS.get (i := 4) rfl
  have hr0 : IsRow h' v0 1 A.length _ := hS.get (i := 7) rfl
  have hn0 := hr0.notTup
  obtain ⟨env, rfl⟩ := he.ex
  clear he
  by_cases hi2 : i < A.length
  ·obtain ⟨a, ha⟩ := ex_get hi2
   obtain ⟨hal, har⟩ := hAk a (List.mem_of_getElem? ha)
   have hrll : (rowL n P.l a).length = P.l.length := by simp [rowL]
   repeat' first | refine st_nil ?_ | (refine gw ?_; first | refine st_mv rx_ ?_ | (refine gq2 ?_; first | refine st_load_t rx_ ?_ | refine st_load_p rfl hg_ (by simp) b_ pv_ ?_) | (refine gq3 ?_; first | refine st_bin_t1 rx_ ?_ | refine st_bin_t2 rx_ ?_ | (refine st_lss rfl rfl rfl ?_ ?_ <;> (intro hc; try (exfalso; omega)))) | (refine gq6 ?_; first | refine st_len_t rx_ ?_ | refine st_len_rd rfl ?_ | refine st_len_row rx_ (by assumption) ?_) | (refine gq4 ?_; first | refine st_field_t rx_ ?_ | refine st_field_p rfl (Nat.zero_add _) ?_) | refine st_nilck_p rfl ?_ | (refine st_mkslice rfl rfl (by omega) (by omega) ?_; intro id hid; try simp only [Heap.set_none] at hid)) | (refine gx ?_; first | refine sx_seq ?_ | refine sx_ops rfl ?_ | refine sx_skip ?_ | refine sx_block ?_ | refine sx_cond_t rfl ?_) | refine sk_norm ?_
   have hS1 := hS.rowF (n := P.l.length) (rs := List.replicate P.l.length (AV.int .i64 0)) hid (by simp)
   refine sx_for P.l.length (fun j env h' => ∃ (t0 v0 : AV) (B : List (List Int)) (xs : List Int), A.length ≤ B.length ∧ B.length ≤ m + j ∧ B[i]? = some a ∧ (∀ b ∈ B, b.length ≤ n.k ∧ ∀ x ∈ b, 0 ≤ x ∧ x < n.k) ∧ xs.length = j ∧ (∀ x ∈ xs, x = -1 ∨ In B.length x) ∧ B = visitsL A ((rowL n P.l a).take j) ∧ xs = ((rowL n P.l a).take j).map (placeL B) ∧ Sep h' [cRow (.own id 1 1 0 P.l.length none) 1 P.l.length (xs.map (AV.int .i64) ++ List.replicate (P.l.length - j) (AV.int .i64 0)), cRow vn 1 i (rows.map rowI), cOld Heap.empty, cCell ib (.cells 0 n.av), cCell i4 nil3, cCell iM (.cells 0 (mkC n (P.mv Rw.sv) vn t0 im v0)), cCell im (.map none (entA B)), cRow t0 1 B.length (tagC n B), cRow v0 1 B.length (B.map rowI)] ∧ env.has [(1, .int .i64 m), (2, .ptr ib 0 0), (4, .ptr i4 0 0), (6, .ptr iM 0 0), (12, .int .i64 i), (13, .own id 1 1 0 P.l.length none), (82, P.mv Rw.sv), (83, .int .i64 P.l.length), (84, .int .i64 j)]) ⟨t0, v0, A, [], Nat.le_refl _, by omega, ha, hAk, rfl, by simp, rfl, rfl, by simpa using hS1, hh_⟩ ?_
   clear hS hS1 hM hr0 hn0
   rintro j env h' hj ⟨t0, v0, B, xs, hAB, hB, hBi, hBk, hxl, hxs, hBv, hxv, hS, he⟩
   have hb : h'.get ib = some (.cells 0 n.av) := hS.get (i := 3) rfl
   have hM : h'.get iM = some (.cells 0 (mkC n (P.mv Rw.sv) vn t0 im v0)) := hS.get (i := 5) rfl
   have hr0 : IsRow h' v0 1 B.length _ := hS.get (i := 8) rfl
   have hn0 := hr0.notTup
   have ha2 : (B.map rowI)[i]? = some (rowI a) := by rw [List.getElem?_map, hBi]; rfl
   have hBi2 := lt_of_getElem? hBi
   obtain ⟨env, rfl⟩ := he.ex
   clear he
   by_cases hj2 : j < P.l.length
   ·obtain ⟨p, hp⟩ := ex_get hj2
    have hpne := (hat.good p (List.mem_of_getElem? hp)).1
    obtain ⟨s, hs⟩ := ex_get (l := p.l) (i := 0) (List.length_pos_iff.2 hpne)
    have hstep := stepp_ok L1 SL n hf a false (by omega) s.lo
    have hstl := step1_len n a s.lo
    have hstr := fun x hx => step1_range (n := n) (a := a) (r := s.lo) (x := x) hx
    have hlo : loP p = s.lo := by
     unfold loP
     cases e : p.l with
     | nil => exact absurd e hpne
     | cons c l =>
      rw [e] at hs
      simp only [List.getElem?_cons_zero, Option.some.injEq] at hs
      rw [hs]
    have hrow : (rowL n P.l a)[j]? = some (step1 n a s.lo) := by
     rw [rowL, List.getElem?_map, hp, ← hlo]
     rfl
    generalize step1 n a s.lo = to at hstep hstl hstr hrow
    obtain ⟨r1, r2⟩ := row_next hrow hBv
    rw [← hxv] at r2
    repeat' first | refine st_nil ?_ | (refine gw ?_; first | refine st_mv rx_ ?_ | (refine gq2 ?_; first | refine st_load_t rx_ ?_ | refine st_load_raw (g := _) rfl hq_ ha2 eq_ (by simp) ?_ | refine st_load_r rfl b_ pv_ ?_ | refine st_load_p rfl hq_ (by simp) b_ pv_ ?_) | (refine gq3 ?_; first | refine st_bin_t1 rx_ ?_ | refine st_bin_t2 rx_ ?_ | (refine st_lss rfl rfl rfl ?_ ?_ <;> (intro hc; try (exfalso; omega)))) | (refine gq5 ?_; first | refine st_index_t1 rx_ ?_ | refine st_index_t2 rx_ ?_ | refine st_index_map' rfl rfl hp (by omega) rfl ?_ | refine st_index_flat' rfl fl_ rfl hs (by omega) rfl ?_ | (refine st_index_row rx_ (by assumption) rfl (by omega) (by omega) ?_; intro ir gr hvr hgr hgp; have hner := Heap.ne_of hgr; have hner2 := Heap.ne_of2 hgr)) | (refine gq4 ?_; first | refine st_field_t rx_ ?_ | refine st_field_p rfl (Nat.zero_add _) ?_ | refine st_field_r rfl (by simp) rfl ?_) | refine st_nilck_p rfl ?_ | refine st_call rfl nt_ ?_) | (refine gx ?_; first | refine sx_seq ?_ | refine sx_ops rfl ?_ | refine sx_skip ?_ | refine sx_block ?_ | refine sx_cond_t rfl ?_) | refine sk_norm ?_ | refine call_pure (by assumption) fz_ fz_ ?_
    refine call_any (dplace_ok L1 SL L L5 n hf (A := B) (vp := P.mv Rw.sv) (vn := vn) (im := im) (c := cAll [cRow (.own id 1 1 0 P.l.length none) 1 P.l.length (xs.map (AV.int .i64) ++ List.replicate (P.l.length - j) (AV.int .i64 0)), cRow vn 1 i (rows.map rowI), cOld Heap.empty, cCell ib (.cells 0 n.av), cCell i4 nil3]) to (by omega) (fun x hx => by have := hstr x hx; omega) (by omega) (Sep.fold hS)) ?_
    rintro _ h2 ⟨rfl, t1, v1, hS5⟩
    have hS6 := hS5.unfold
    clear hS hS5 hb hM hr0
    have hrr : IsRow h2 (.own id 1 1 0 P.l.length none) 1 P.l.length _ := hS6.get (i := 0) rfl
    obtain ⟨hgr2, _⟩ := hrr.own_get
    clear hvr hgr hgp hner hner2 hrr
    repeat' first | refine st_nil ?_ | (refine gw ?_; first | refine st_mv rx_ ?_ | (refine gq3 ?_; first | refine st_bin_t1 rx_ ?_ | refine st_add rfl rfl rfl (by omega) (by omega) ?_) | (refine gq5 ?_; first | refine st_index_t1 rx_ ?_ | refine st_index_t2 rx_ ?_ | refine st_index_own rfl rfl (by omega) (by omega) ?_) | (refine gq13 ?_; first | refine st_store_t1 rx_ ?_ | refine st_store_t2 rx_ ?_ | refine st_store_p (v := AV.int _ _) rfl rfl hq_ rfl rfl b_ sv_ ?_)) | refine sx_ops rfl ?_ | refine sk_norm ?_ | refine bk_norm ?_
    obtain ⟨hl1, hl2⟩ := visitL_len B to
    have e9 : (xs.map (AV.int .i64) ++ List.replicate (P.l.length - j) (AV.int .i64 0)).set ((j : Int).toNat * 1) (AV.int .i64 (placeL B to)) = (xs ++ [placeL B to]).map (AV.int .i64) ++ List.replicate (P.l.length - (j + 1)) (AV.int .i64 0) := by
     rw [Int.toNat_natCast, Nat.mul_one, fill_set (by rw [List.length_map]; exact hxl) hj2, List.map_append]
     rfl
    refine lk_next hj2 ⟨t1, v1, visitL B to, xs ++ [placeL B to], by omega, by omega, ?_, fun b hb => ?_, by simp [hxl], fun x hx => ?_, r1.symm, r2.symm, ?_, hh_⟩
    ·obtain ⟨t, et⟩ := visitL_pre B to
     rw [← et, List.getElem?_append_left hBi2]; exact hBi
    ·unfold visitL at hb
     split at hb
     ·exact hBk b hb
     ·rcases List.mem_append.1 hb with hb | hb
      ·exact hBk b hb
      ·simp only [List.mem_singleton] at hb; subst hb; exact ⟨hstl, hstr⟩
    ·rcases List.mem_append.1 hx with hx | hx
     ·exact In.more (hxs x hx) hl1
     ·simp only [List.mem_singleton] at hx; subst hx
      exact placeL_in B to
    ·rw [e9]
     exact hS6.rowset 0 ((xs ++ [placeL B to]).map (AV.int .i64) ++ List.replicate (P.l.length - (j + 1)) (AV.int .i64 0)) rfl rfl (Nat.le_refl _) (by simp [hxl]; omega)
   ·have hj3 : j = P.l.length := by omega
    subst hj3
    rw [List.take_of_length_le (by omega)] at hBv hxv
    rw [Nat.sub_self, List.replicate_zero, List.append_nil] at hS
    have ha' : (accL n P.l i)[i]? = some a := by rw [← hAx]; exact ha
    have hBx : B = accL n P.l (i + 1) := by rw [accL, ha', hBv, hAx]
    have hrr : IsRow h' (.own id 1 1 0 P.l.length none) 1 P.l.length _ := hS.get (i := 0) rfl
    repeat' first | refine st_nil ?_ | (refine gq3 ?_; first | refine st_bin_t1 rx_ ?_ | refine st_bin_t2 rx_ ?_ | (refine st_lss rfl rfl rfl ?_ ?_ <;> (intro hc; try (exfalso; omega)))) | (refine gx ?_; first | refine sx_seq ?_ | refine sx_ops rfl ?_ | refine sx_exit ?_ | refine sx_cond_f rfl ?_) | refine sk_norm ?_ | refine sk_exit ?_ | refine bk_exit ?_ | refine lk_exit ?_
    refine sx_freeze 13 (v := .own id 1 1 0 P.l.length none) rfl rfl hrr ?_
    intro h3 hk3
    have hS2 := hS.drop 0 (h' := h3) rfl hk3
    clear hS hb hM hr0 hrr hk3
    have hM : h3.get iM = some (.cells 0 (mkC n (P.mv Rw.sv) vn t0 im v0)) := hS2.get (i := 4) rfl
    have hrn : IsRow h3 vn 1 i _ := hS2.get (i := 0) rfl
    have hnn := hrn.notTup
    repeat' first | (refine gw ?_; first | refine st_mv rx_ ?_ | (refine gq2 ?_; first | refine st_load_t rx_ ?_ | refine st_load_p rfl hq_ (by simp) b_ pv_ ?_) | (refine gq13 ?_; first | refine st_store_t1 rx_ ?_ | refine st_store_t2 rx_ ?_) | (refine gq14 ?_; first | refine st_append_t1 rx_ ?_ | refine st_append_t2 rx_ ?_ | (refine st_append (m := 1) rx_ iq_ rfl rfl (by omega) ?_; intro va hpa hra hka hria)) | (refine gq4 ?_; first | refine st_field_t rx_ ?_ | refine st_field_p rfl (Nat.zero_add _) ?_) | refine st_nilck_p rfl ?_ | refine st_lit (cs := [AV.rd _ _ _]) rfl rfl ?_)
    have hS3 := hS2.upd 0 (cRow va 1 (i + 1) (rows.map rowI ++ [.rd P.l.length (xs.map (.int .i64)) false])) rfl hra hka hria
    have hMb : hpa.get iM = some (.cells 0 (mkC n (P.mv Rw.sv) vn t0 im v0)) := hS3.get (i := 4) rfl
    refine st_store_row (v := va) (cs' := mkC n (P.mv Rw.sv) va t0 im v0) rfl rfl hra hMb (by simp) rfl ?_
    have hS4 := hS3.put 4 (.cells 0 (mkC n (P.mv Rw.sv) va t0 im v0)) rfl
    clear hS2 hS3 hM hMb hrn hra hka hria
    generalize hpa.set iM (.cells 0 (mkC n (P.mv Rw.sv) va t0 im v0)) = h4 at hS4 ⊢
    have hM : h4.get iM = some (.cells 0 (mkC n (P.mv Rw.sv) va t0 im v0)) := hS4.get (i := 4) rfl
    have hr4 : h4.get i4 = some nil3 := hS4.get (i := 3) rfl
    have hr0 : IsRow h4 v0 1 B.length _ := hS4.get (i := 7) rfl
    by_cases hB2 : B.length ≤ m
    ·repeat' first | refine st_nil ?_ | (refine gw ?_; first | refine st_mv rx_ ?_ | (refine gq2 ?_; first | refine st_load_t rx_ ?_ | refine st_load_p rfl hq_ (by simp) b_ pv_ ?_) | (refine gq3 ?_; first | refine st_bin_t1 rx_ ?_ | refine st_bin_t2 rx_ ?_ | refine st_add rfl rfl rfl (by omega) (by omega) ?_ | (refine st_gtr rfl rfl rfl ?_ ?_ <;> (intro hc; try (exfalso; omega)))) | (refine gq6 ?_; first | refine st_len_t rx_ ?_ | refine st_len_row rx_ (by assumption) ?_) | (refine gq4 ?_; first | refine st_field_t rx_ ?_ | refine st_field_p rfl (Nat.zero_add _) ?_) | refine st_nilck_p rfl ?_) | (refine gx ?_; first | refine sx_seq ?_ | refine sx_ops rfl ?_ | refine sx_skip ?_ | refine sx_cond_f rfl ?_) | refine sk_norm ?_ | refine bk_norm ?_
     refine lk_next (by omega) ⟨va, t0, v0, B, rows ++ [xs], by omega, hB2, by omega, by simp [hrl], hBk, fun r hr => ?_, hBx, ?_, ?_, hh_⟩
     ·rcases List.mem_append.1 hr with hr | hr
      ·exact ⟨(hrows r hr).1, fun x hx => In.more ((hrows r hr).2 x hx) hAB⟩
      ·simp only [List.mem_singleton] at hr; subst hr; exact ⟨hxl, hxs⟩
     ·rw [hBx, rowsL_next ha', ← hBx, ← hAx, ← hrx, ← hxv]
     ·rw [List.map_append, List.map_singleton, show rowI xs = .rd P.l.length (xs.map (.int .i64)) false by rw [← hxl]]
      exact hS4
    ·repeat' first | refine st_nil ?_ | (refine gw ?_; first | refine st_mv rx_ ?_ | (refine gq2 ?_; first | refine st_load_t rx_ ?_ | refine st_load_p rfl hq_ (by simp) b_ pv_ ?_) | (refine gq3 ?_; first | refine st_bin_t1 rx_ ?_ | refine st_bin_t2 rx_ ?_ | (refine st_gtr rfl rfl rfl ?_ ?_ <;> (intro hc; try (exfalso; omega)))) | (refine gq13 ?_; first | refine st_store_t1 rx_ ?_ | refine st_store_t2 rx_ ?_ | refine st_store_p (v := AV.agg _) rfl rfl hq_ rfl rfl b_ sv_ ?_) | (refine gq6 ?_; first | refine st_len_t rx_ ?_ | refine st_len_row rx_ (by assumption) ?_) | (refine gq4 ?_; first | refine st_field_t rx_ ?_ | refine st_field_p rfl (Nat.zero_add _) ?_) | refine st_nilck_p rfl ?_ | refine st_build (cs := [AV.rd _ _ _, AV.rd _ _ _, AV.rd _ _ _]) rfl ?_) | (refine gx ?_; first | refine sx_seq ?_ | refine sx_ops rfl ?_ | refine sx_ret ?_ | refine sx_cond_t rfl ?_) | refine sk_norm ?_ | refine sk_ret ?_ | refine bk_ret ?_ | refine lk_ret ?_
     refine fin_ret (v := .tup [.agg [.rd 0 [] true, .rd 0 [] true, .rd 0 [] true], .int .u16 63]) ?_ ?_
     ·exact res_two (t := 4) (t2 := 5) rfl (Heap.get_set_self _ _ _) rfl rfl rfl
     ·refine Or.inl ⟨?_, rfl⟩
      have h1 := (accL_mono n P.l (show i + 1 ≤ m by omega)).length_le
      rw [← hBx] at h1
      omega
  ·have hi3 : i = A.length := by omega
   have hr4 : h'.get i4 = some nil3 := hS.get (i := 3) rfl
   repeat' first | refine st_nil ?_ | (refine gw ?_; first | refine st_mv rx_ ?_ | (refine gq2 ?_; first | refine st_load_t rx_ ?_ | refine st_load_p rfl hq_ (by simp) b_ pv_ ?_) | (refine gq3 ?_; first | refine st_bin_t1 rx_ ?_ | refine st_bin_t2 rx_ ?_ | (refine st_lss rfl rfl rfl ?_ ?_ <;> (intro hc; try (exfalso; omega)))) | (refine gq13 ?_; first | refine st_store_t1 rx_ ?_ | refine st_store_t2 rx_ ?_ | refine st_store_p (v := AV.agg _) rfl rfl hq_ rfl rfl b_ sv_ ?_) | (refine gq6 ?_; first | refine st_len_t rx_ ?_ | refine st_len_row rx_ (by assumption) ?_) | (refine gq4 ?_; first | refine st_field_t rx_ ?_ | refine st_field_p rfl (Nat.zero_add _) ?_) | refine st_nilck_p rfl ?_) | (refine gx ?_; first | refine sx_seq ?_ | refine sx_ops rfl ?_ | refine sx_ret ?_ | refine sx_exit ?_ | refine sx_cond_f rfl ?_) | refine sk_norm ?_ | refine sk_exit ?_ | refine bk_exit ?_ | refine lk_exit ?_
   have hrn : IsRow h' vn 1 i _ := hS.get (i := 0) rfl
   have hrt : IsRow h' t0 1 A.length (tagC n A) := hS.get (i := 6) rfl
   obtain ⟨ts, htsd⟩ : ∃ ts, ts = A.map fun a => tagOf1 (tags1 n a) := ⟨_, rfl⟩
   have htc : tagC n A = ts.map (.int .i64) := by rw [htsd, List.map_map]; rfl
   have htl : ts.length = A.length := by rw [htsd, List.length_map]
   have hts : ∀ t ∈ ts, -1 ≤ t ∧ t ≤ 5 := fun t ht => by
    rw [htsd] at ht
    obtain ⟨a, _, rfl⟩ := List.mem_map.1 ht
    exact tagOf1_range hsm.tags a
   have htx : ts = tagsL n A A.length := by rw [htsd, tagsL, List.take_of_length_le (Nat.le_refl _)]
   rw [htc] at hrt
   have f1 := (hrn.set_ne (id := i4) (o := .cells 0 [P.mv Rw.sv, vn, t0]) fun e => hS.disj (i := 3) (j := 0) rfl rfl (by decide) i4 rfl e).fz (fun k => vn.rowId = some k ∨ t0.rowId = some k) (fun _ h => .inl h) (FzL.same _)
   have f2 := (hrt.set_ne (id := i4) (o := .cells 0 [P.mv Rw.sv, vn, t0]) fun e => hS.disj (i := 3) (j := 6) rfl rfl (by decide) i4 rfl e).fz (fun k => vn.rowId = some k ∨ t0.rowId = some k) (fun _ h => .inr h) (FzL.same _)
   refine fin_ret_fz (fun k => vn.rowId = some k ∨ t0.rowId = some k) (res_two (t := 4) (t2 := 5) rfl (Heap.get_set_self _ _ _) rfl rfl rfl) (.tup (.cons (.agg (.cons (.same _) (.cons f1 (.cons f2 .nil)))) (.cons (.same _) .nil))) ?_
   have hok : (Dfa.mk P ⟨rows.map fun r => ⟨r, false⟩, false⟩ ⟨ts, false⟩).plain.Ok := made_ok hat (by omega) (by omega) (by omega) (by omega) (fun r hr => by have := hrows r hr; rw [htl]; exact this) (fun t ht => (hts t ht).1)
   have hAm : accL n P.l m = A := by rw [hAx]; exact accL_stop n P.l (by rw [← hAx]; omega) (by omega)
   refine Or.inr ⟨by rw [hAm]; exact hA100, _, ?_, ?_, hok, wide_of hok ?_, hts⟩
   ·simp only [Dfa.av, Rw.mv, Rw.iv, Rw.av, List.map_map, List.length_map, hrl, htl]
    rfl
   ·show (⟨plainS P.l, plainI (rows.map fun r => Rw.mk r false), ts⟩ : PD) = mkPD n P.l m
    rw [mkPD, hAm, ← htx, ← hi3, ← hrx]
    congr 1
    simp only [plainI, List.map_map]
    exact List.map_id rows
   ·have : catL (Dfa.mk P ⟨rows.map fun r => ⟨r, false⟩, false⟩ ⟨ts, false⟩).plain.parts = catS P.l := (catS_plain P.l).symm
    rw [this]; omega
end Go.Proofs.YtdldfflfbfpngaaGreatDoor
