/- Rounds. Copies; rounds till nothing changes. Rounds till nothing changes. What is come to. -/
import Derived.Test.YtpcbpgepjfenhaaGreatDoorE1
import Derived.Test.YtpcbpgepjfenhaaGreatDoorP1
import Derived.Test.YtpcbpgepjfenhaaGreatDoorD6
import Derived.Test.YtpcbpgepjfenhaaGreatDoorP2
set_option linter.unusedVariables false
set_option linter.unusedSimpArgs false
namespace Go.Proofs.YtpcbpgepjfenhaaGreatDoor
open Go
set_option maxHeartbeats 4000000
attribute [local irreducible] wops xcode wcode seqK blockK loopK finK wcall wop wstp Runs
def textAt (N : List (Rw Int)) (K : List Int) (s : Nat) : List UInt8 := intS (K.getD s 0) ++ wordsS ((N.getD s ⟨[], false⟩).l.map (kindK K))
def textsL (N : List (Rw Int)) (K : List Int) : List (List UInt8) := (List.range K.length).map (textAt N K)
theorem textsL_length (N : List (Rw Int)) (K : List Int) : (textsL N K).length = K.length := by simp [textsL]
theorem textsL_get {N : List (Rw Int)} {K : List Int} {s : Nat} (h : s < K.length) : (textsL N K)[s]? = some (textAt N K s) := by
 simp [textsL, h]
theorem str_inj : ∀ a b : List UInt8, AV.str a = AV.str b → a = b := fun _ _ e => by injection e
theorem fill_set {α : Type} {a : List α} {z v : α} {n i : Nat} (ha : a.length = i) (hi : i < n) : (a ++ List.replicate (n - i) z).set i v = (a ++ [v]) ++ List.replicate (n - (i + 1)) z := by
 subst ha
 rw [List.set_append_right _ _ (Nat.le_refl _), Nat.sub_self, show n - a.length = (n - (a.length + 1)) + 1 by omega, List.replicate_succ, List.set_cons_zero, List.append_assoc]
 rfl
def natV (q : Nat) : AV := .int .i64 q
theorem roundK_ok {Φ : Lib} (L : LibC3 Φ) {h : Heap} {iw : Nat} {d : Dfa} {K : Rw Int} (hw : WAt h iw d K) (hf : d.Fit K) :
  Runs Φ 117 [.ptr iw 0 0] h (fun v h' => v = .int .i64 (firsts (textsL d.next.l K.l)).length ∧ WAt h' iw d ⟨(numb (textsL d.next.l K.l)).map Int.ofNat, false⟩ ∧ ∀ k, k ≠ iw → h.get k ≠ none → h'.get k = h.get k) := by
 have hw' : h.get iw = some (.cells 0 [d.parts.mv Rw.sv, d.next.mv Rw.iv, d.tags.iv, K.iv]) := hw
 have hiw : h.get iw ≠ none := by rw [hw']; simp
 have hkl := hf.kl
 have hn2 := hf.n2
 refine runs_of (fun o => o == some 45) rfl L.f117 ?_
 repeat' first | refine st_nil ?_ | (refine gw ?_; first | (refine g0 ?_; first | refine st_mv (v := AV.int _ _) rfl ?_ | refine st_mv (v := AV.ptr _ _ _) rfl ?_ | refine st_mv (v := AV.own _ _ _ _ _ _) rfl ?_ | refine st_mv (v := AV.map _) rfl ?_) | refine st_load_p rfl hg_ (by simp) b_ pv_ ?_ | refine st_field_p rfl (Nat.zero_add _) ?_ | refine st_len_rd rfl ?_ | refine st_nilck_p rfl ?_ | (refine st_mkslice rfl rfl (by omega) (by omega) ?_; intro id hid; try simp only [Heap.set_none] at hid) | (refine st_mkmap ?_; intro id hid; try simp only [Heap.set_none] at hid)) | (refine gx ?_; first | refine sx_seq ?_ | refine sx_ops rfl ?_ | refine sx_block ?_) | refine sk_norm ?_
 rename_i im him
 have hix := hid
 clear hid
 generalize hT : textsL d.next.l K.l = T
 have hTl : T.length = K.l.length := by rw [← hT]; exact textsL_length _ _
 have hfm : ∀ k, h.get k ≠ none → k ≠ im := fun k hk e => hk (e ▸ him)
 have hfx : ∀ k, h.get k ≠ none → k ≠ id := fun k hk e => hk (e ▸ hix.2)
 refine sx_for K.l.length (fun i env h' => h'.get im = some (.map none (entsFrom AV.str 0 (firsts (T.take i)))) ∧ h'.get id = some (.cells 1 ((numb (T.take i)).map natV ++ List.replicate (K.l.length - i) (.int .i64 0))) ∧ (∀ k, h.get k ≠ none → h'.get k = h.get k) ∧ env.has [(0, .ptr iw 0 0), (3, .map im), (4, .own id 1 1 0 K.l.length none), (20, .int .i64 K.l.length), (21, .int .i64 i)]) ⟨?_, ?_, ?_, hh_⟩ ?_
 ·rw [Heap.get_set_ne _ _ hix.1.symm, Heap.get_set_self]; rfl
 ·rw [Heap.get_set_self]
  congr 2
  simp [numb]
 ·intro k hk
  rw [Heap.get_set_ne _ _ (hfx k hk), Heap.get_set_ne _ _ (hfm k hk)]
 rintro i env h' hi ⟨hm, hx, hold, he⟩
 obtain ⟨env, rfl⟩ := he.ex
 clear he
 have hw1 := (hold iw hiw).trans hw'
 by_cases hi2 : i < K.l.length
 ·obtain ⟨k, hk⟩ := ex_get hi2
  obtain ⟨row, hr⟩ := ex_get (l := d.next.l) (show i < d.next.l.length by omega)
  have ht : T[i]? = some (intS k ++ wordsS (row.l.map (kindK K.l))) := by
   rw [← hT, textsL_get hi2]
   simp [textAt, List.getD_eq_getElem?_getD, hk, hr]
  repeat' first | refine st_nil ?_ | (refine gw ?_; first | (refine g0 ?_; first | refine st_mv (v := AV.int _ _) rfl ?_ | refine st_mv (v := AV.ptr _ _ _) rfl ?_) | (refine st_lss rfl rfl rfl ?_ ?_ <;> (intro hc; try (exfalso; omega))) | refine st_call rfl nt_ ?_) | (refine gx ?_; first | refine sx_seq ?_ | refine sx_ops rfl ?_ | refine sx_skip ?_ | refine sx_block ?_ | refine sx_cond_t rfl ?_) | refine sk_norm ?_
  refine call_quiet (by omega) (text_ok L (K := K) hw1 hf hk hr) ?_
  generalize intS k ++ wordsS (row.l.map (kindK K.l)) = t at ht
  have hfl := firsts_length (T.take i)
  have hsn : T.take (i + 1) = T.take i ++ [t] := by rw [List.take_add_one, ht]; rfl
  have hnl := numb_length (T.take i)
  rw [List.length_take] at hnl hfl
  have hmi : id ≠ im := hix.1
  repeat' first | refine st_nil ?_ | (refine g0 ?_; first | refine st_mv (v := AV.str _) rfl ?_ | refine st_mv (v := AV.map _) rfl ?_) | (refine gx ?_; first | refine sx_seq ?_ | refine sx_ops rfl ?_) | refine sk_norm ?_
  refine st_lookup2 (key := AV.str t) rfl rfl rfl hm ?_
  rw [alook_ents str_inj]
  by_cases hmem : t ∈ firsts (T.take i)
  ·have hfe : firsts (T.take (i + 1)) = firsts (T.take i) := by rw [hsn, firsts_snoc, addNew, if_pos hmem]
   have hne : numb (T.take (i + 1)) = numb (T.take i) ++ [placeOf (firsts (T.take i)) t] := by rw [hsn, numb_snoc, ← hsn, hfe]
   rw [if_pos hmem]
   repeat' first | refine st_nil ?_ | (refine gw ?_; first | (refine g0 ?_; first | refine st_mv (v := AV.int _ _) rfl ?_ | refine st_mv (v := AV.bool _) rfl ?_ | refine st_mv (v := AV.own _ _ _ _ _ _) rfl ?_ | refine st_mv (v := AV.tup _) rfl ?_) | refine st_add rfl rfl rfl (by omega) (by omega) ?_ | refine st_index_own rfl rfl (by omega) (by omega) ?_ | refine st_store_p (v := AV.int _ _) rfl rfl hg_ rfl rfl b_ sv_ ?_ | refine st_not (b := true) rfl ?_ | refine st_extract rfl rfl ?_) | (refine gx ?_; first | refine sx_seq ?_ | refine sx_ops rfl ?_ | refine sx_skip ?_ | refine sx_cond_f rfl ?_) | refine sk_norm ?_ | refine bk_norm ?_
   rw [Nat.zero_add]
   refine lk_next hi2 ⟨?_, ?_, fun k hk => (Heap.get_set_ne _ _ (hfx k hk)).trans (hold k hk), hh_⟩
   ·rw [Heap.get_set_ne _ _ hmi.symm, hm, hfe]
   ·rw [Heap.get_set_self, hne]
    simp only [AV.cells, putCells, Nat.zero_add, Nat.mul_one, Int.toNat_natCast]
    rw [fill_set (by rw [List.length_map, hnl]; omega) hi2]
    simp [natV]
  ·have hfe : firsts (T.take (i + 1)) = firsts (T.take i) ++ [t] := by rw [hsn, firsts_snoc, addNew, if_neg hmem]
   have hne : numb (T.take (i + 1)) = numb (T.take i) ++ [(firsts (T.take i)).length] := by
    rw [hsn, numb_snoc, ← hsn, hfe, placeOf_last hmem]
   rw [if_neg hmem]
   repeat' first | refine st_nil ?_ | (refine gw ?_; first | (refine g0 ?_; first | refine st_mv (v := AV.int _ _) rfl ?_ | refine st_mv (v := AV.bool _) rfl ?_ | refine st_mv (v := AV.tup _) rfl ?_ | refine st_mv (v := AV.map _) rfl ?_) | refine st_not (b := false) rfl ?_ | refine st_extract rfl rfl ?_) | (refine gx ?_; first | refine sx_seq ?_ | refine sx_ops rfl ?_ | refine sx_cond_t rfl ?_) | refine sk_norm ?_
   refine st_len_map rfl hm ?_
   rw [entsFrom_length]
   repeat' first | refine st_nil ?_ | (refine g0 ?_; first | refine st_mv (v := AV.int _ _) rfl ?_ | refine st_mv (v := AV.str _) rfl ?_ | refine st_mv (v := AV.map _) rfl ?_) | refine sx_ops rfl ?_ | refine sk_norm ?_
   refine st_update (key := AV.str t) (v := AV.int _ _) rfl rfl rfl rfl rfl hm ?_
   have he2 := aput_ents str_inj t (firsts (T.take i)) 0 hmem
   rw [Nat.zero_add] at he2
   rw [he2, ← hfe]
   have hx2 : (h'.set im (.map none (entsFrom AV.str 0 (firsts (T.take (i + 1)))))).get id = some (.cells 1 ((numb (T.take i)).map natV ++ List.replicate (K.l.length - i) (.int .i64 0))) := (Heap.get_set_ne _ _ hmi).trans hx
   repeat' first | refine st_nil ?_ | (refine gw ?_; first | (refine g0 ?_; first | refine st_mv (v := AV.int _ _) rfl ?_ | refine st_mv (v := AV.own _ _ _ _ _ _) rfl ?_) | refine st_add rfl rfl rfl (by omega) (by omega) ?_ | refine st_index_own rfl rfl (by omega) (by omega) ?_ | refine st_store_p (v := AV.int _ _) rfl rfl hg_ rfl rfl b_ sv_ ?_) | refine sx_ops rfl ?_ | refine sk_norm ?_ | refine bk_norm ?_
   refine lk_next hi2 ⟨?_, ?_, fun k hk => (Heap.get_set_ne _ _ (hfx k hk)).trans ((Heap.get_set_ne _ _ (hfm k hk)).trans (hold k hk)), hh_⟩
   ·rw [Heap.get_set_ne _ _ hmi.symm, Heap.get_set_self]
   ·rw [Heap.get_set_self, hne]
    simp only [AV.cells, putCells, Nat.zero_add, Nat.mul_one, Int.toNat_natCast]
    rw [fill_set (by rw [List.length_map, hnl]; omega) hi2]
    simp [natV]
 ·have hii : i = K.l.length := by omega
  rw [List.take_of_length_le (by omega)] at hm hx
  rw [show K.l.length - i = 0 by omega, List.replicate_zero, List.append_nil] at hx
  have hnl := numb_length T
  have hrow : IsRow h' (.own id 1 1 0 K.l.length none) 1 K.l.length ((numb T).map natV) := .inr ⟨id, 1, rfl, hx, Nat.le_refl _, by simp [hnl, hTl]⟩
  repeat' first | refine st_nil ?_ | (refine st_lss rfl rfl rfl ?_ ?_ <;> (intro hc; try (exfalso; omega))) | (refine gx ?_; first | refine sx_seq ?_ | refine sx_ops rfl ?_ | refine sx_exit ?_ | refine sx_cond_f rfl ?_) | refine sk_norm ?_ | refine sk_exit ?_ | refine bk_exit ?_ | refine lk_exit ?_
  refine sx_freeze 4 (v := .own id 1 1 0 K.l.length none) rfl rfl hrow ?_
  intro h2 hk2
  have hw2 : h2.get iw = _ := (hk2 iw (by simpa [AV.rowId] using fun e => hfx iw hiw e.symm)).trans hw1
  have hm2 : h2.get im = _ := (hk2 im (by simpa [AV.rowId] using hix.1)).trans hm
  repeat' first | refine st_nil ?_ | (refine gw ?_; first | (refine g0 ?_; first | refine st_mv (v := AV.rd _ _ _) rfl ?_ | refine st_mv (v := AV.ptr _ _ _) rfl ?_ | refine st_mv (v := AV.map _) rfl ?_) | refine st_field_p rfl (Nat.zero_add _) ?_ | refine st_nilck_p rfl ?_ | refine st_store_p (v := AV.rd _ _ _) rfl rfl hg_ rfl rfl b_ sv_ ?_) | (refine gx ?_; first | refine sx_seq ?_ | refine sx_ops rfl ?_) | refine sk_norm ?_
  refine st_len_map rfl ((Heap.get_set_ne _ _ (hfm iw hiw).symm).trans hm2) ?_
  rw [entsFrom_length]
  repeat' first | refine st_nil ?_ | refine st_mv (v := AV.int _ _) rfl ?_ | refine sx_ret ?_ | refine sk_norm ?_
  refine fin_ret rfl ⟨rfl, ?_, fun k hk hk0 => ?_⟩
  ·unfold WAt
   rw [Heap.get_set_self]
   simp [Rw.iv, Rw.mv, hnl, hTl, natV, Function.comp_def]
  ·rw [Heap.get_set_ne _ _ hk, hk2 k (by simpa [AV.rowId] using fun e => hfx k hk0 e.symm), hold k hk0]
end Go.Proofs.YtpcbpgepjfenhaaGreatDoor
set_option linter.unusedVariables false
set_option linter.unusedSimpArgs false
namespace Go.Proofs.YtpcbpgepjfenhaaGreatDoor
open Go
set_option maxHeartbeats 4000000
attribute [local irreducible] wops xcode wcode seqK blockK loopK finK wcall wop wstp Runs
theorem st_eqN {F : FnSem} {r : List DOper} {Q : Env → Heap → Prop} {env : Env} {h : Heap} {d : Nat} {x : DOpd} {v : AV} {e n : Nat} {cs : List AV} {neg : Bool} (hx : ev env x = v) (hs : srcCells h e v = some (n, cs)) (hns : v.isStr = false)
  (k1 : wops F r Q (env.put d (.bool neg)) h) (k2 : n = 0 → wops F r Q (env.put d (.bool !neg)) h) : wops F (⟨some d, .eqN neg x, none⟩ :: r) Q env h := by
 simp only [wops_go, wop_eqN, effRes, hx, putDst_some]
 cases v with
 | rd m c f =>
  simp only [srcCells] at hs
  split at hs
  ·injection hs with hs
   injection hs with e1 e2
   subst e1
   dsimp only
   by_cases h0 : m = 0
   ·rw [if_pos h0]
    intro b
    cases b <;> cases neg <;> first | exact k1 | exact k2 h0
   ·rw [if_neg h0]
    exact k1
  ·cases hs
 | own id g e2 off len lim =>
  have : len = n := by
   simp only [srcCells] at hs
   split at hs
   ·split at hs
    ·injection hs with hs; injection hs
    ·cases hs
   ·cases hs
  subst this
  dsimp only
  by_cases h0 : len = 0
  ·rw [if_pos h0]
   intro b
   cases b <;> cases neg <;> first | exact k1 | exact k2 h0
  ·rw [if_neg h0]
   exact k1
 | str s => cases hns
 | _ => simp [srcCells] at hs
theorem clone_ok {Φ : Lib} (L : LibC3 Φ) {h : Heap} {v : AV} {n : Nat} {cs : List AV} (hs : srcCells h 1 v = some (n, cs)) (hl : cs.length = n * 1) (hns : v.isStr = false) (hnt : v.isTup = false) (hn : n ≤ 4294967296) :
  Runs Φ 116 [v] h (fun v' h' => IsRow h' v' 1 n cs ∧ (∀ k, h.get k ≠ none → h'.get k = h.get k) ∧ ∀ k, v'.rowId = some k → h.get k = none) := by
 refine runs_of (fun _ => false) rfl L.f116 ?_
 repeat' first | refine st_nil ?_ | (refine g0 ?_; first | refine st_mv (v := AV.rd _ _ _) rfl ?_ | refine st_mv rv_ ?_) | (refine gx ?_; first | refine sx_seq ?_ | refine sx_ops rfl ?_) | refine sk_norm ?_
 refine st_eqN rfl hs hns ?_ ?_
 ·repeat' first | refine st_nil ?_ | (refine gw ?_; first | refine st_mv rv_ ?_ | refine st_lit rfl rfl ?_) | (refine gx ?_; first | refine sx_seq ?_ | refine sx_ops rfl ?_ | refine sx_skip ?_ | refine sx_cond_f rfl ?_) | refine sk_norm ?_
  refine st_append_src (n := 0) rfl (IsRow.nil _ _) rfl hs hl (by omega) ?_
  intro v' h' hr hk hi
  rw [Nat.zero_add, List.nil_append] at hr
  repeat' first | refine st_nil ?_ | refine st_mv rv_ ?_ | refine sx_ret ?_ | refine sk_norm ?_
  exact fin_ret rfl ⟨hr, fun k hk0 => hk k hk0 (by simp [AV.rowId]), fun k hk0 => (hi k hk0).resolve_left (by simp [AV.rowId])⟩
 ·rintro rfl
  have : cs = [] := List.eq_nil_of_length_eq_zero (by omega)
  subst this
  repeat' first | refine st_nil ?_ | refine st_mv (v := AV.rd _ _ _) rfl ?_ | (refine gx ?_; first | refine sx_seq ?_ | refine sx_ops rfl ?_ | refine sx_ret ?_ | refine sx_cond_t rfl ?_) | refine sk_norm ?_ | refine sk_ret ?_
  exact fin_ret rfl ⟨IsRow.nil _ _, fun k _ => rfl, fun k hk => by simp [AV.rowId] at hk⟩
theorem cloneP_ok {Φ : Lib} (L : LibC3 Φ) (r : Rw Int) (hn : r.l.length ≤ 4294967296) : Pure Φ 116 [r.iv] (.rd r.l.length (r.l.map (.int .i64)) false) := by
 refine runs_of (fun _ => false) rfl L.f116 ?_
 have hs : ∀ h : Heap, srcCells h 1 r.iv = some (r.l.length, r.l.map (.int .i64)) := fun h => by simp [srcCells]
 repeat' first | refine st_nil ?_ | refine st_mv (v := AV.rd _ _ _) rfl ?_ | (refine gx ?_; first | refine sx_seq ?_ | refine sx_ops rfl ?_) | refine sk_norm ?_
 refine st_eqN rfl (hs _) rfl ?_ ?_
 ·repeat' first | refine st_nil ?_ | (refine gw ?_; first | (refine g0 ?_; first | refine st_mv (v := AV.rd _ _ _) rfl ?_ | refine st_mv rv_ ?_) | (refine st_append rv_ ir_ rfl (by simp) (by first | omega | (simp; omega)) ?_; intro va hpa hra hka hria) | refine st_lit rfl rfl ?_) | (refine gx ?_; first | refine sx_seq ?_ | refine sx_ops rfl ?_ | refine sx_skip ?_ | refine sx_ret ?_ | refine sx_cond_f rfl ?_) | refine sk_norm ?_
  rw [Nat.zero_add, List.nil_append] at hra
  exact fin_row rfl hra (fun _ => rfl)
 ·intro h0
  have h1 : r.l = [] := List.eq_nil_of_length_eq_zero h0
  repeat' first | refine st_nil ?_ | refine st_mv (v := AV.rd _ _ _) rfl ?_ | (refine gx ?_; first | refine sx_seq ?_ | refine sx_ops rfl ?_ | refine sx_ret ?_ | refine sx_cond_t rfl ?_) | refine sk_norm ?_ | refine sk_ret ?_
  exact fin_row rfl (IsRow.nil _ 1) (fun _ => by simp [h1])
end Go.Proofs.YtpcbpgepjfenhaaGreatDoor
set_option linter.unusedVariables false
set_option linter.unusedSimpArgs false
namespace Go.Proofs.YtpcbpgepjfenhaaGreatDoor
open Go
set_option maxHeartbeats 4000000
attribute [local irreducible] wops xcode wcode seqK blockK loopK finK wcall wop wstp Runs
def roundK (N : List (Rw Int)) (K : List Int) : List Int := (numb (textsL N K)).map Int.ofNat
def cntK (N : List (Rw Int)) (K : List Int) : Nat := (firsts (textsL N K)).length
def itK (N : List (Rw Int)) (T : List Int) : Nat → List Int
 | 0 => T
 | r + 1 => roundK N (itK N T r)
theorem roundK_length (N : List (Rw Int)) (K : List Int) : (roundK N K).length = K.length := by simp [roundK, numb_length, textsL_length]
theorem itK_length (N : List (Rw Int)) (T : List Int) : ∀ r, (itK N T r).length = T.length
 | 0 => rfl
 | r + 1 => by rw [itK, roundK_length, itK_length N T r]
theorem cntK_le (N : List (Rw Int)) (K : List Int) : cntK N K ≤ K.length := by
 have := firsts_length (textsL N K)
 rw [textsL_length] at this
 exact this
theorem textAt_iff {N : List (Rw Int)} {K : List Int} {s t : Nat} : textAt N K s = textAt N K t ↔ K.getD s 0 = K.getD t 0 ∧ (N.getD s ⟨[], false⟩).l.map (kindK K) = (N.getD t ⟨[], false⟩).l.map (kindK K) := by
 constructor
 ·exact fun e => textS_inj e
 ·rintro ⟨e1, e2⟩
  unfold textAt
  rw [e1, e2]
theorem roundK_eq {N : List (Rw Int)} {K : List Int} {s t : Nat} (hs : s < K.length) (ht : t < K.length) : (roundK N K).getD s 0 = (roundK N K).getD t 0 ↔ textAt N K s = textAt N K t := by
 have h1 := numb_eq (textsL_get (N := N) hs) (textsL_get (N := N) ht)
 rw [← h1]
 unfold roundK
 rw [List.getD_eq_getElem?_getD, List.getD_eq_getElem?_getD, List.getElem?_map, List.getElem?_map]
 have l1 : s < (numb (textsL N K)).length := by rw [numb_length, textsL_length]; exact hs
 have l2 : t < (numb (textsL N K)).length := by rw [numb_length, textsL_length]; exact ht
 rw [List.getElem?_eq_getElem l1, List.getElem?_eq_getElem l2]
 simp only [Option.map_some, Option.getD_some, Option.some.injEq]
 constructor
 ·exact fun e => Int.ofNat.inj e
 ·rintro e; rw [e]
theorem roundK_refines {N : List (Rw Int)} {K : List Int} {s t : Nat} (hs : s < K.length) (ht : t < K.length) (e : textAt N (roundK N K) s = textAt N (roundK N K) t) : textAt N K s = textAt N K t :=
 (roundK_eq hs ht).1 (textAt_iff.1 e).1
theorem cntK_mono (N : List (Rw Int)) (K : List Int) : cntK N K ≤ cntK N (roundK N K) ∧ (cntK N K = cntK N (roundK N K) → ∀ s < K.length, ∀ t < K.length, textAt N K s = textAt N K t → textAt N (roundK N K) s = textAt N (roundK N K) t) := by
 have h := cnt_le ((List.range K.length).map fun s => (textAt N K s, textAt N (roundK N K) s)) (by
  intro a ha b hb e
  obtain ⟨s, hs, rfl⟩ := List.mem_map.1 ha
  obtain ⟨t, ht, rfl⟩ := List.mem_map.1 hb
  exact roundK_refines (List.mem_range.1 hs) (List.mem_range.1 ht) e)
 rw [List.map_map, List.map_map] at h
 have e1 : (List.range K.length).map ((fun x : List UInt8 × List UInt8 => x.1) ∘ fun s => (textAt N K s, textAt N (roundK N K) s)) = textsL N K := rfl
 have e2 : (List.range K.length).map ((fun x : List UInt8 × List UInt8 => x.2) ∘ fun s => (textAt N K s, textAt N (roundK N K) s)) = textsL N (roundK N K) := by
  unfold textsL
  rw [roundK_length]
  rfl
 rw [e1, e2] at h
 refine ⟨h.1, fun e s hs t ht est => ?_⟩
 exact h.2 e (_, _) (List.mem_map.2 ⟨s, List.mem_range.2 hs, rfl⟩) (_, _) (List.mem_map.2 ⟨t, List.mem_range.2 ht, rfl⟩) est
theorem roundK_range (N : List (Rw Int)) {K : List Int} (hK : K.length ≤ 2000) : ∀ x ∈ roundK N K, 0 ≤ x ∧ x ≤ 2000 := by
 intro x hx
 unfold roundK at hx
 obtain ⟨q, hq, rfl⟩ := List.mem_map.1 hx
 have h1 := numb_lt hq
 have h2 := firsts_length (textsL N K)
 rw [textsL_length] at h2
 simp only [Int.ofNat_eq_natCast]
 omega
theorem Dfa.Fit.round {d : Dfa} {K : Rw Int} (hf : d.Fit K) (f : Bool) : d.Fit ⟨roundK d.next.l K.l, f⟩ where
 kl := by rw [roundK_length]; exact hf.kl
 tl := hf.tl
 n1 := hf.n1
 n2 := hf.n2
 p2 := hf.p2
 rows := hf.rows
 to := hf.to
 kr := fun x hx => by
  have := roundK_range d.next.l (by rw [hf.kl]; exact hf.n2) x hx
  omega
theorem Dfa.Fit.it {d : Dfa} (hf : d.Fit d.tags) : ∀ q, d.Fit ⟨itK d.next.l d.tags.l q, false⟩
 | 0 => ⟨hf.kl, hf.tl, hf.n1, hf.n2, hf.p2, hf.rows, hf.to, hf.kr⟩
 | q + 1 => (Dfa.Fit.it hf q).round false
def lastK (N : List (Rw Int)) (T : List Int) : Nat → Nat
 | 0 => 0
 | q + 1 => cntK N (itK N T q)
theorem cntK_pos {N : List (Rw Int)} {K : List Int} (h : 1 ≤ K.length) : 1 ≤ cntK N K := by
 have : textAt N K 0 ∈ firsts (textsL N K) := mem_firsts.2 (List.mem_of_getElem? (textsL_get h))
 exact List.length_pos_of_mem this
theorem refine_ok {Φ : Lib} (L : LibC3 Φ) {h : Heap} {iw : Nat} {d : Dfa} {K : Rw Int} (hw : WAt h iw d K) (hf : d.Fit d.tags) :
  Runs Φ 103 [.ptr iw 0 0] h (fun v h' => (∃ r, WAt h' iw d ⟨itK d.next.l d.tags.l (r + 2), false⟩ ∧ cntK d.next.l (itK d.next.l d.tags.l r) = cntK d.next.l (itK d.next.l d.tags.l (r + 1))) ∧ ∀ k, k ≠ iw → h.get k ≠ none → h'.get k = h.get k) := by
 have hw' : h.get iw = some (.cells 0 [d.parts.mv Rw.sv, d.next.mv Rw.iv, d.tags.iv, K.iv]) := hw
 have hiw : h.get iw ≠ none := by rw [hw']; simp
 have hn2 := hf.n2
 have hn1 := hf.n1
 have htl := hf.tl
 have hcl := cloneP_ok L d.tags (by omega)
 refine runs_of (fun o => false) rfl L.f103 ?_
 repeat' first | refine st_nil ?_ | (refine gw ?_; first | (refine g0 ?_; first | refine st_mv (v := AV.int _ _) rfl ?_ | refine st_mv (v := AV.ptr _ _ _) rfl ?_) | refine st_load_p rfl hg_ (by simp) b_ pv_ ?_ | refine st_field_p rfl (Nat.zero_add _) ?_ | refine st_nilck_p rfl ?_ | refine st_call rfl nt_ ?_ | refine st_store_p (v := AV.rd _ _ _) rfl rfl hg_ rfl rfl b_ sv_ ?_) | (refine gx ?_; first | refine sx_seq ?_ | refine sx_ops rfl ?_ | refine sx_skip ?_ | refine sx_block ?_) | refine sk_norm ?_ | refine call_pure (by assumption) fz_ fz_ ?_
 refine sx_loop (fun m env h' => ∃ q, m = d.next.l.length - lastK d.next.l d.tags.l q ∧ WAt h' iw d ⟨itK d.next.l d.tags.l q, false⟩ ∧ (∀ k, k ≠ iw → h.get k ≠ none → h'.get k = h.get k) ∧ env.has [(0, .ptr iw 0 0), (2, .int .i64 (lastK d.next.l d.tags.l q))]) d.next.l.length ⟨0, rfl, Heap.get_set_self _ _ _, fun k hk _ => Heap.get_set_ne _ _ hk, hh_⟩ ?_
 rintro m env h' ⟨q, rfl, hw1, hold, he⟩
 obtain ⟨env, rfl⟩ := he.ex
 clear he
 repeat' first | (refine gw ?_; first | refine st_mv (v := AV.ptr _ _ _) rfl ?_ | refine st_call rfl nt_ ?_) | (refine gx ?_; first | refine sx_seq ?_ | refine sx_ops rfl ?_ | refine sx_block ?_)
 refine call_any (roundK_ok L hw1 (hf.it q)) ?_
 rintro _ h2 ⟨rfl, hw2, hk2⟩
 have hlen : (itK d.next.l d.tags.l q).length = d.next.l.length := by rw [itK_length]; exact htl
 have hpos := cntK_pos (N := d.next.l) (K := itK d.next.l d.tags.l q) (by omega)
 have hle := cntK_le d.next.l (itK d.next.l d.tags.l q)
 have hlast : lastK d.next.l d.tags.l q ≤ cntK d.next.l (itK d.next.l d.tags.l q) := by
  cases q with
  | zero => exact Nat.zero_le _
  | succ q => exact (cntK_mono _ _).1
 have hold2 : ∀ k, k ≠ iw → h.get k ≠ none → h2.get k = h.get k := fun k hk h0 => (hk2 k hk (by rw [hold k hk h0]; exact h0)).trans (hold k hk h0)
 have hc2 : lastK d.next.l d.tags.l (q + 1) = cntK d.next.l (itK d.next.l d.tags.l q) := rfl
 rw [show (firsts (textsL d.next.l (itK d.next.l d.tags.l q))).length = cntK d.next.l (itK d.next.l d.tags.l q) from rfl]
 repeat' first | refine st_nil ?_ | (refine gw ?_; first | refine st_mv (v := AV.int _ _) rfl ?_ | (refine st_eql rfl rfl rfl ?_ ?_ <;> (intro hc; try (exfalso; omega)))) | (refine gx ?_; first | refine sx_seq ?_ | refine sx_ops rfl ?_ | refine sx_skip ?_ | refine sx_exit ?_ | refine sx_cond_t rfl ?_ | refine sx_cond_f rfl ?_) | refine sk_norm ?_ | refine sk_exit ?_ | refine bk_norm ?_ | refine bk_exit ?_ | refine bk_other rfl ?_ | refine lk_exit ?_
 ·cases q with
  | zero => exfalso; simp only [lastK] at hc; omega
  | succ q =>
   refine fin_norm rfl ⟨⟨q, hw2, ?_⟩, hold2⟩
   simp only [lastK] at hc
   omega
 ·exact lk_norm _ (by omega) ⟨q + 1, rfl, hw2, hold2, hh_⟩
end Go.Proofs.YtpcbpgepjfenhaaGreatDoor
set_option linter.unusedVariables false
set_option linter.unusedSimpArgs false
namespace Go.Proofs.YtpcbpgepjfenhaaGreatDoor
open Go
set_option maxHeartbeats 4000000
def IsApp (h : Heap) (v : AV) (e n : Nat) (cs : List AV) : Prop :=
 (v = .rd n cs true ∧ cs.length = n * e) ∨ ∃ id g, v = .own id g e 0 n none ∧ h.get id = some (.cells g cs) ∧ 1 ≤ g ∧ cs.length = n * e
theorem IsRow.app {h v e n cs} (hr : IsRow h v e n cs) : IsApp h v e n cs := by
 rcases hr with ⟨rfl, rfl, rfl⟩ | h1
 ·exact .inl ⟨rfl, by simp⟩
 ·exact .inr h1
theorem IsApp.lit {h : Heap} {e n cs} (hl : cs.length = n * e) : IsApp h (.rd n cs true) e n cs := .inl ⟨rfl, hl⟩
theorem IsApp.length {h v e n cs} (hr : IsApp h v e n cs) : cs.length = n * e := by
 rcases hr with ⟨_, h⟩ | ⟨_, _, _, _, _, h⟩ <;> exact h
theorem IsApp.keep {h h' : Heap} {v e n cs} (hr : IsApp h v e n cs) (hk : ∀ id, v.rowId = some id → h'.get id = h.get id) : IsApp h' v e n cs := by
 rcases hr with h1 | ⟨id, g, rfl, h2, h3, h4⟩
 ·exact .inl h1
 ·exact .inr ⟨id, g, rfl, (hk id rfl).trans h2, h3, h4⟩
theorem IsApp.there {h : Heap} {v e n cs} (hr : IsApp h v e n cs) {id : Nat} (hi : v.rowId = some id) : h.get id ≠ none := by
 rcases hr with ⟨rfl, _⟩ | ⟨id', g, rfl, h2, _⟩
 ·cases hi
 ·cases hi
  rw [h2]; simp
theorem IsApp.notTup {h : Heap} {v e n cs} (hr : IsApp h v e n cs) : v.isTup = false := by
 rcases hr with ⟨rfl, _⟩ | ⟨id', g, rfl, _⟩ <;> rfl
theorem IsApp.notStr {h : Heap} {v e n cs} (hr : IsApp h v e n cs) : v.isStr = false := by
 rcases hr with ⟨rfl, _⟩ | ⟨id', g, rfl, _⟩ <;> rfl
theorem IsApp.new {h : Heap} {v e n cs} (hr : IsApp h v e n cs) {id : Nat} {o : DObj} (hid : h.get id = none) : IsApp (h.set id o) v e n cs :=
 hr.keep fun k hk => Heap.get_set_ne _ _ (fun e => hr.there hk (e ▸ hid))
theorem IsApp.set_ne {h : Heap} {v e n cs} (hr : IsApp h v e n cs) {id : Nat} {o : DObj} (hid : v.rowId ≠ some id) : IsApp (h.set id o) v e n cs :=
 hr.keep fun k hk => Heap.get_set_ne _ _ (fun e => hid (e ▸ hk))
theorem IsApp.fz {h : Heap} {v e n cs cs'} (hr : IsApp h v e n cs) (S : Nat → Prop) (hS : ∀ id, v.rowId = some id → S id) (hc : FzL h S cs cs') : FzV h S v (.rd n cs' false) := by
 rcases hr with ⟨rfl, h1⟩ | h1
 ·exact .rd hc (fun h => by cases h)
 ·exact IsRow.fz (.inr h1) S hS hc
def PtrTo (h : Heap) (p a : AV) : Prop := p = .rp [a] ∨ ∃ id g o cs, p = .ptr id g o ∧ h.get id = some (.cells g cs) ∧ cs[o]? = some a
section
variable {F : FnSem} {r : List DOper} {Q : Env → Heap → Prop} {env : Env} {h : Heap} {d : Nat} {x y z c : DOpd}
theorem st_append_app {e n m : Nat} {v w : AV} {cs new : List AV} (hx : ev env x = v) (hrow : IsApp h v e n cs) (hy : ev env y = w) (hs : srcCells h e w = some (m, new)) (hm : new.length = m * e) (hle : n + m ≤ 4294967296)
  (k : ∀ v' h', IsApp h' v' e (n + m) (cs ++ new) → (∀ id, h.get id ≠ none → v.rowId ≠ some id → h'.get id = h.get id) → (∀ id, v'.rowId = some id → v.rowId = some id ∨ h.get id = none) → wops F r Q (env.put d v') h') : wops F (⟨some d, .append e x y, none⟩ :: r) Q env h := by
 have hmax : maxRow = 4294967296 := rfl
 rcases hrow with ⟨rfl, hl⟩ | hrow
 ·simp only [wops_go, wop_append, effRes, hx, hy, hs, Option.bind_some, putDst_some]
  rw [if_pos ⟨hl, by omega⟩]
  by_cases h0 : m = 0
  ·subst h0
   have : new = [] := List.eq_nil_of_length_eq_zero (by simpa using hm)
   subst this
   simp only [if_true, wres_val]
   exact k _ _ (.inl ⟨by simp, by simpa using hl⟩) (fun _ _ _ => rfl) (fun _ h => by cases h)
  ·rw [if_neg h0]
   simp only [if_true, wres_new]
   intro id hid
   exact k _ _ (.inr ⟨id, 1, rfl, Heap.get_set_self _ _ _, Nat.le_refl _, by rw [List.length_append, hl, hm, Nat.add_mul]⟩) (fun j hj _ => Heap.get_set_ne _ _ (fun e => hj (e ▸ hid))) (fun j hj => by cases hj; exact .inr hid)
 ·exact st_append_src hx (.inr hrow) hy hs hm hle fun v' h' k1 k2 k3 => k v' h' k1.app k2 k3
theorem st_len_app {h0 : Heap} {v e n cs} (hx : ev env x = v) (hrow : IsApp h0 v e n cs) (k : wops F r Q (env.put d (.int .i64 n)) h) : wops F (⟨some d, .len 0 x, none⟩ :: r) Q env h := by
 rcases hrow with ⟨rfl, h1⟩ | ⟨id, g, rfl, _⟩
 ·exact st_len_rd hx k
 ·exact st_len_own hx k
theorem st_index_app {v : AV} {n : Nat} {cs : List AV} {k : IntKind} {j : Int} {m : Nat} {a : AV} (hx : ev env x = v) (hrow : IsApp h v 1 n cs) (hy : ev env y = .int k j) (hj : j = (m : Int)) (ha : cs[m]? = some a) (k1 : ∀ p, PtrTo h p a → wops F r Q (env.put d p) h) : wops F (⟨some d, .indexAddr 1 x y, none⟩ :: r) Q env h := by
 have hm := lt_of_getElem? ha
 have hl := hrow.length
 subst hj
 rcases hrow with ⟨rfl, _⟩ | ⟨id, g, rfl, h1, h2, h3⟩
 ·refine st_index_rd hx hy (by omega) (by omega) (cs' := [a]) ?_ (k1 _ (.inl rfl))
  obtain ⟨h4, rfl⟩ := List.getElem?_eq_some_iff.1 ha
  rw [Int.toNat_natCast, Nat.mul_one, List.drop_eq_getElem_cons h4]
  rfl
 ·exact st_index_own hx hy (by omega) (by omega) (k1 _ (.inr ⟨id, g, _, cs, rfl, h1, by simpa using ha⟩))
theorem st_load_to {p a : AV} (hx : ev env x = p) (hp : PtrTo h p a) (k : wops F r Q (env.put d a) h) : wops F (⟨some d, .load false 1 false x, none⟩ :: r) Q env h := by
 rcases hp with rfl | ⟨id, g, o, cs, rfl, h1, h2⟩
 ·exact st_load_r hx (by simp) rfl k
 ·have := lt_of_getElem? h2
  exact st_load_p hx h1 (by simp) (by omega) (by simp [part, List.getD_eq_getElem?_getD, h2]) k
end
theorem fin_app {rs : List DRes} {Q : AV → Heap → Prop} {env : Env} {h : Heap} {v : AV} {e n : Nat} {cs : List AV} (hv : resVals env h rs = some v) (hr : IsApp h v e n cs) (k : ∀ h', (∀ j, v.rowId ≠ some j → h'.get j = h.get j) → Q (.rd n cs false) h') : finK rs Q .ret env h := by
 refine fin_ret_fz (fun j => v.rowId = some j) hv (hr.fz _ (fun _ h => h) (FzL.same _)) (k _ fun j hj => ?_)
 simp only [Heap.drop, hj, if_false]
attribute [local irreducible] wops xcode wcode seqK blockK loopK finK wcall wop wstp Runs
def rowK (N : List (Rw Int)) (s : Int) : List Int := (N.getD s.toNat ⟨[], false⟩).l
theorem rowK_get {N : List (Rw Int)} {s : Int} {m : Nat} {r : Rw Int} (hs : s = (m : Int)) (h : N[m]? = some r) : rowK N s = r.l := by
 subst hs
 simp [rowK, List.getD_eq_getElem?_getD, h]
theorem Dfa.Fit.tab {d : Dfa} {K : Rw Int} (hf : d.Fit K) : Tab d.next.l.length d.parts.l.length (rowK d.next.l) := by
 have key : ∀ s, In d.next.l.length s → ∃ r ∈ d.next.l, rowK d.next.l s = r.l := fun s hs => by
  have h1 : s.toNat < d.next.l.length := by unfold In at hs; omega
  exact ⟨d.next.l[s.toNat], List.getElem_mem h1, by simp [rowK, List.getD_eq_getElem?_getD, h1]⟩
 refine ⟨fun s hs => ?_, fun s hs x hx => ?_⟩
 ·obtain ⟨r, hr, e⟩ := key s hs
  rw [e]; exact hf.rows r hr
 ·obtain ⟨r, hr, e⟩ := key s hs
  rw [e] at hx
  rcases hf.to r hr x hx with h | h
  ·exact .inl h
  ·right; unfold In; omega
theorem wreach_ok {Φ : Lib} (L : LibC3 Φ) {h : Heap} {iw : Nat} {d : Dfa} {K : Rw Int} (hw : WAt h iw d K) (hf : d.Fit K) :
  Runs Φ 105 [.ptr iw 0 0] h (fun v h' => v = rowI (reachL d.next.l.length (kindK K.l) (rowK d.next.l) 0) ∧ ∀ k, h.get k ≠ none → h'.get k = h.get k) := by
 have hw' : h.get iw = some (.cells 0 [d.parts.mv Rw.sv, d.next.mv Rw.iv, d.tags.iv, K.iv]) := hw
 have hiw : h.get iw ≠ none := by rw [hw']; simp
 have hn2 := hf.n2
 have hn1 := hf.n1
 have hkl := hf.kl
 have h0 : In d.next.l.length 0 := ⟨Int.le_refl _, by omega⟩
 obtain ⟨k0, hk0⟩ := ex_get (l := K.l) (show 0 < K.l.length by omega)
 have hfe : ∀ a b : Int, AV.int .i64 a = AV.int .i64 b → a = b := fun _ _ e => by injection e
 generalize hκ : kindK K.l = κ
 have hkin : ∀ {s : Int} {q : Nat} {x : Int}, s = (q : Int) → K.l[q]? = some x → κ s = x := fun {s q x} e hx => by
  rw [← hκ, kindK, if_neg (by omega), e, Int.toNat_natCast, List.getD_eq_getElem?_getD, hx]; rfl
 refine runs_of (fun _ => false) rfl L.f105 ?_
 repeat' first | refine st_nil ?_ | (refine gw ?_; first | (refine g0 ?_; first | refine st_mv (v := AV.rd _ _ _) rfl ?_ | refine st_mv (v := AV.ptr _ _ _) rfl ?_) | (refine g2 ?_; first | refine st_load_r rfl b_ pv_ ?_ | refine st_load_p rfl hg_ (by simp) b_ pv_ ?_) | refine st_field_p rfl (Nat.zero_add _) ?_ | refine st_index_map rfl rfl rfl (by assumption) rfl ?_ | refine st_nilck_p rfl ?_ | refine st_lit (cs := [AV.int _ _]) rfl rfl ?_ | (refine st_mkmap ?_; intro id hid; try simp only [Heap.set_none] at hid)) | (refine gx ?_; first | refine sx_seq ?_ | refine sx_ops rfl ?_) | refine sk_norm ?_
 refine st_update (key := AV.int .i64 k0) (v := AV.int .i64 0) rfl rfl rfl rfl rfl (Heap.get_set_self _ _ _) ?_
 have ek0 : κ 0 = k0 := hkin (q := 0) rfl hk0
 have hkind : ∀ {h' : Heap} {x : Int}, h'.get iw = h.get iw → x = -1 ∨ In d.next.l.length x → Runs Φ 107 [.ptr iw 0 0, .int .i64 x] h' (fun v h2 => v = .int .i64 (κ x) ∧ h'.Ext h2) := fun {h' x} he hx => by
  rw [← hκ]
  refine kind_ok L (K := K) (hw.keep he) x ?_
  rcases hx with h1 | h1
  ·exact .inl h1
  ·right; unfold In at h1; omega
 have hne : ∀ {k}, h.get k ≠ none → k ≠ id := fun hk e => hk (e ▸ hid)
 have hT := hf.tab
 repeat' first | refine st_nil ?_ | (refine g0 ?_; first | refine st_mv (v := AV.int _ _) rfl ?_ | refine st_mv (v := AV.map _) rfl ?_) | (refine gx ?_; first | refine sx_seq ?_ | refine sx_ops rfl ?_ | refine sx_block ?_) | refine sk_norm ?_
 refine sx_for d.next.l.length (fun i env h' => ∃ v, IsApp h' v 1 (accAt κ (rowK d.next.l) 0 i).length ((accAt κ (rowK d.next.l) 0 i).map (.int .i64)) ∧ h'.get id = some (.map (some .i64) (entsFrom (AV.int .i64) 0 ((accAt κ (rowK d.next.l) 0 i).map κ))) ∧ (∀ k, h.get k ≠ none → h'.get k = h.get k) ∧ (∀ k, v.rowId = some k → h.get k = none) ∧ env.has [(0, .ptr iw 0 0), (3, v), (4, .map id), (5, .int .i64 i)]) ⟨_, IsApp.lit rfl, ?_, ?_, fun k hk => by simp [AV.rowId] at hk, hh_⟩ ?_
 ·rw [Heap.get_set_self]
  simp [accAt, entsFrom, aput, ek0]
 ·intro k hk
  rw [Heap.get_set_ne _ _ (hne hk), Heap.get_set_ne _ _ (hne hk)]
 rintro i env h' hi ⟨v, hv, hm, hold, hown, he⟩
 obtain ⟨env, rfl⟩ := he.ex
 clear he
 obtain ⟨hcome, hdone⟩ := accAt_come (κ := κ) hT h0 i
 have hmost := hcome.most
 have hnx : ∀ s, (accAt κ (rowK d.next.l) 0 i)[i]? = some s → accAt κ (rowK d.next.l) 0 (i + 1) = visits κ (accAt κ (rowK d.next.l) 0 i) (rowK d.next.l s) := fun s hs => by rw [accAt, hs]
 have hstop : (accAt κ (rowK d.next.l) 0 i).length ≤ i → accAt κ (rowK d.next.l) 0 i = reachL d.next.l.length κ (rowK d.next.l) 0 := reachL_of hT h0
 generalize hacc : accAt κ (rowK d.next.l) 0 i = acc at hv hm hcome hdone hmost hnx hstop
 have hnt := hv.notTup
 by_cases hi2 : i < acc.length
 ·obtain ⟨s, hs⟩ := ex_get hi2
  have hsin := hcome.inn s (List.mem_of_getElem? hs)
  obtain ⟨row, hrow⟩ := ex_get (l := d.next.l) (i := s.toNat) (by unfold In at hsin; omega)
  have hrk : rowK d.next.l s = row.l := rowK_get (m := s.toNat) (by unfold In at hsin; omega) hrow
  have hs0 : s = (s.toNat : Int) := by unfold In at hsin; omega
  have hrl := hf.rows row (List.mem_of_getElem? hrow)
  have hp2 := hf.p2
  have hw1 := (hold iw hiw).trans hw'
  have hsm : (acc.map (AV.int .i64))[i]? = some (.int .i64 s) := by rw [List.getElem?_map, hs]; rfl
  repeat' first | refine st_nil ?_ | (refine gw ?_; first | (refine g0 ?_; first | refine st_mv (v := AV.int _ _) rfl ?_ | refine st_mv (v := AV.ptr _ _ _) rfl ?_ | refine st_mv rv_ ?_) | refine st_load_p rfl hg_ (by simp) b_ pv_ ?_ | (refine st_lss rfl rfl rfl ?_ ?_ <;> (intro hc; try (exfalso; omega))) | refine st_field_p rfl (Nat.zero_add _) ?_ | refine st_nilck_p rfl ?_ | refine st_len_app rv_ (by assumption) ?_) | (refine gx ?_; first | refine sx_seq ?_ | refine sx_ops rfl ?_ | refine sx_skip ?_ | refine sx_block ?_ | refine sx_cond_t rfl ?_) | refine sk_norm ?_
  refine st_index_app rfl hv rfl rfl hsm ?_
  intro p hp
  refine st_load_to rfl hp ?_
  repeat' first | refine st_nil ?_ | (refine gw ?_; first | refine st_mv (v := AV.int _ _) rfl ?_ | refine st_load_r rfl b_ pv_ ?_ | refine st_index_map' rfl rfl hrow (by omega) rfl ?_ | refine st_len_rd rfl ?_) | refine sx_block ?_ | refine sk_norm ?_
  refine sx_for row.l.length (fun j env h' => ∃ v acc', visits κ acc (row.l.take j) = acc' ∧ IsApp h' v 1 acc'.length (acc'.map (.int .i64)) ∧ h'.get id = some (.map (some .i64) (entsFrom (AV.int .i64) 0 (acc'.map κ))) ∧ (∀ k, h.get k ≠ none → h'.get k = h.get k) ∧ (∀ k, v.rowId = some k → h.get k = none) ∧ env.has [(0, .ptr iw 0 0), (3, v), (4, .map id), (5, .int .i64 i), (35, row.iv), (36, .int .i64 row.l.length), (37, .int .i64 j)]) ⟨v, acc, by simp [visits], hv, hm, hold, hown, hh_⟩ ?_
  clear hm hold hown hv hnt hp hw1
  rintro j env h' hj ⟨v, acc', hacc', hv, hm, hold, hown, he⟩
  obtain ⟨env, rfl⟩ := he.ex
  clear he
  have hw1 := (hold iw hiw).trans hw'
  have hnt := hv.notTup
  have hto : ∀ x ∈ row.l, x = -1 ∨ In d.next.l.length x := by rw [← hrk]; exact hT.to s hsin
  have hmost' : acc'.length ≤ d.next.l.length := by
   rw [← hacc']
   exact (hcome.visits (row := row.l.take j) (fun x hx => hto x (List.mem_of_mem_take hx)) fun x hx => ⟨s, List.mem_of_getElem? hs, by rw [hrk]; exact List.mem_of_mem_take hx⟩).1.most
  by_cases hj2 : j < row.l.length
  ·obtain ⟨x, hx⟩ := ex_get hj2
   have hxo := hto x (List.mem_of_getElem? hx)
   have hnx2 : visits κ acc (row.l.take (j + 1)) = visit κ acc' x := by
    rw [take_snoc hx, visits, List.foldl_append, ← hacc']
    rfl
   repeat' first | refine st_nil ?_ | (refine gw ?_; first | (refine g0 ?_; first | refine st_mv (v := AV.int _ _) rfl ?_ | refine st_mv (v := AV.ptr _ _ _) rfl ?_ | refine st_mv (v := AV.map _) rfl ?_) | refine st_load_r rfl b_ pv_ ?_ | (refine st_lss rfl rfl rfl ?_ ?_ <;> (intro hc; try (exfalso; omega))) | refine st_index_map' rfl rfl hx (by omega) rfl ?_ | refine st_call rfl nt_ ?_) | (refine gx ?_; first | refine sx_seq ?_ | refine sx_ops rfl ?_ | refine sx_skip ?_ | refine sx_block ?_ | refine sx_cond_t rfl ?_) | refine sk_norm ?_
   refine call_quiet (by omega) (hkind (hold iw hiw) hxo) ?_
   skip
   refine st_lookup2 (key := AV.int .i64 (κ x)) rfl rfl rfl hm ?_
   rw [alook_ents hfe]
   by_cases hmem : κ x ∈ acc'.map κ
   ·rw [if_pos hmem]
    have hv2 : visit κ acc' x = acc' := by rw [visit, if_pos (.inr hmem)]
    repeat' first | refine st_nil ?_ | (refine gw ?_; first | (refine g0 ?_; first | refine st_mv (v := AV.int _ _) rfl ?_ | refine st_mv (v := AV.bool _) rfl ?_ | refine st_mv (v := AV.tup _) rfl ?_) | (refine g1 ?_; first | refine st_skipg rfl ?_ | refine st_gog rfl ?_) | (refine g3 ?_; first | refine st_add rfl rfl rfl (by omega) (by omega) ?_ | (refine st_neq rfl rfl rfl ?_ ?_ <;> (intro hc; try (exfalso; omega)))) | (refine g7 ?_; first | refine st_pick_t (v := AV.bool _) rfl rfl ?_ | refine st_pick_f (v := AV.bool _) rfl rfl ?_) | refine st_not (b := true) rfl ?_ | refine st_extract rfl rfl ?_) | (refine gx ?_; first | refine sx_seq ?_ | refine sx_ops rfl ?_ | refine sx_skip ?_ | refine sx_cond_f rfl ?_) | refine sk_norm ?_ | refine bk_norm ?_
    all_goals exact lk_next hj2 ⟨v, acc', by rw [hnx2, hv2], hv, hm, hold, hown, hh_⟩
   ·rw [if_neg hmem]
    by_cases hx1 : x = -1
    ·subst hx1
     have hv2 : visit κ acc' (-1) = acc' := by rw [visit, if_pos (.inl rfl)]
     repeat' first | refine st_nil ?_ | (refine gw ?_; first | (refine g0 ?_; first | refine st_mv (v := AV.int _ _) rfl ?_ | refine st_mv (v := AV.bool _) rfl ?_ | refine st_mv (v := AV.tup _) rfl ?_) | refine st_skipg rfl ?_ | (refine g3 ?_; first | refine st_add rfl rfl rfl (by omega) (by omega) ?_ | (refine st_neq rfl rfl rfl ?_ ?_ <;> (intro hc; try (exfalso; omega)))) | refine st_pick_f (v := AV.bool _) rfl rfl ?_ | refine st_extract rfl rfl ?_) | (refine gx ?_; first | refine sx_seq ?_ | refine sx_ops rfl ?_ | refine sx_skip ?_ | refine sx_cond_f rfl ?_) | refine sk_norm ?_ | refine bk_norm ?_
     exact lk_next hj2 ⟨v, acc', by rw [hnx2, hv2], hv, hm, hold, hown, hh_⟩
    ·have hxi := hxo.resolve_left hx1
     obtain ⟨kx, hkx⟩ := ex_get (l := K.l) (i := x.toNat) (by unfold In at hxi; omega)
     have ekx : κ x = kx := hkin (q := x.toNat) (by unfold In at hxi; omega) hkx
     have hx0 : x = (x.toNat : Int) := by unfold In at hxi; omega
     have hv2 : visit κ acc' x = acc' ++ [x] := by rw [visit, if_neg (fun e => e.elim hx1 hmem)]
     repeat' first | refine st_nil ?_ | (refine gw ?_; first | (refine g0 ?_; first | refine st_mv (v := AV.int _ _) rfl ?_ | refine st_mv (v := AV.bool _) rfl ?_ | refine st_mv (v := AV.ptr _ _ _) rfl ?_ | refine st_mv (v := AV.tup _) rfl ?_ | refine st_mv (v := AV.map _) rfl ?_ | refine st_mv rv_ ?_) | refine st_gog rfl ?_ | (refine g2 ?_; first | refine st_load_r rfl b_ pv_ ?_ | refine st_load_p rfl hg_ (by simp) b_ pv_ ?_) | (refine st_neq rfl rfl rfl ?_ ?_ <;> (intro hc; try (exfalso; omega))) | refine st_field_p rfl (Nat.zero_add _) ?_ | refine st_index_map' rfl rfl hkx (by omega) rfl ?_ | refine st_pick_t (v := AV.bool _) rfl rfl ?_ | refine st_nilck_p rfl ?_ | refine st_not (b := false) rfl ?_ | refine st_extract rfl rfl ?_ | refine st_len_app rv_ (by assumption) ?_) | (refine gx ?_; first | refine sx_seq ?_ | refine sx_ops rfl ?_ | refine sx_cond_t rfl ?_) | refine sk_norm ?_
     refine st_update (key := AV.int .i64 kx) (v := AV.int .i64 acc'.length) rfl rfl rfl rfl rfl hm ?_
     have he2 := aput_ents hfe (κ x) (acc'.map κ) 0 hmem
     rw [Nat.zero_add, List.length_map, ekx] at he2
     rw [he2]
     have hvid : v.rowId ≠ some id := fun e => by
      rcases hv with ⟨rfl, _⟩ | ⟨id', g, rfl, h2, _⟩
      ·cases e
      ·injection e with e
       subst e
       rw [hm] at h2; cases h2
     have hv3 := hv.set_ne (o := .map (some .i64) (entsFrom (AV.int .i64) 0 (acc'.map κ ++ [kx]))) hvid
     repeat' first | refine st_nil ?_ | (refine gw ?_; first | (refine g0 ?_; first | refine st_mv (v := AV.int _ _) rfl ?_ | refine st_mv rv_ ?_) | refine st_add rfl rfl rfl (by omega) (by omega) ?_ | refine st_lit (cs := [AV.int _ _]) rfl rfl ?_ | (refine st_append_app (m := 1) rv_ (by first | assumption | exact IsApp.new (by assumption) (by assumption) | fail) rfl (by exact rfl) rfl (by omega) ?_; intro va hpa hra hka hria)) | refine sx_ops rfl ?_ | refine sk_norm ?_ | refine bk_norm ?_
     refine lk_next hj2 ⟨va, acc' ++ [x], by rw [hnx2, hv2], ?_, ?_, fun k hk => ?_, fun k hk => ?_, hh_⟩
     ·rw [List.length_append, List.map_append]
      exact hra
     ·rw [hka id (by rw [Heap.get_set_self]; simp) hvid, Heap.get_set_self, List.map_append, ← ekx]
      rfl
     ·have h1 : (h'.set id (.map (some .i64) (entsFrom (AV.int .i64) 0 (acc'.map κ ++ [kx])))).get k = h'.get k := Heap.get_set_ne _ _ (hne hk)
      rw [hka k (by rw [h1, hold k hk]; exact hk) (fun e => hk (hown k e)), h1, hold k hk]
     ·rcases hria k hk with h1 | h1
      ·exact hown k h1
      ·rw [Heap.set_none] at h1
       apply Classical.byContradiction
       intro hn
       rw [hold k hn] at h1
       exact hn h1.2
  ·repeat' first | refine st_nil ?_ | (refine gw ?_; first | refine st_mv (v := AV.int _ _) rfl ?_ | (refine g3 ?_; first | refine st_add rfl rfl rfl (by omega) (by omega) ?_ | (refine st_lss rfl rfl rfl ?_ ?_ <;> (intro hc; try (exfalso; omega))))) | (refine gx ?_; first | refine sx_seq ?_ | refine sx_ops rfl ?_ | refine sx_exit ?_ | refine sx_cond_f rfl ?_) | refine sk_norm ?_ | refine sk_exit ?_ | refine bk_norm ?_ | refine bk_exit ?_ | refine lk_exit ?_
   rw [List.take_of_length_le (by omega)] at hacc'
   have hnxs := hnx s hs
   rw [hrk, hacc'] at hnxs
   refine lk_next (by omega) ⟨v, by rw [hnxs]; exact hv, by rw [hnxs]; exact hm, hold, hown, hh_⟩
 ·repeat' first | refine st_nil ?_ | (refine gw ?_; first | (refine g0 ?_; first | refine st_mv (v := AV.int _ _) rfl ?_ | refine st_mv rv_ ?_) | (refine st_lss rfl rfl rfl ?_ ?_ <;> (intro hc; try (exfalso; omega))) | refine st_len_app rv_ (by assumption) ?_) | (refine gx ?_; first | refine sx_seq ?_ | refine sx_ops rfl ?_ | refine sx_ret ?_ | refine sx_exit ?_ | refine sx_cond_f rfl ?_) | refine sk_norm ?_ | refine sk_exit ?_ | refine bk_exit ?_ | refine lk_exit ?_
  have e := hstop (by omega)
  rw [← e]
  refine fin_app rfl hv fun h2 hk => ⟨?_, fun k hk0 => (hk k fun e => hk0 (hown k e)).trans (hold k hk0)⟩
  simp [rowI]
end Go.Proofs.YtpcbpgepjfenhaaGreatDoor
