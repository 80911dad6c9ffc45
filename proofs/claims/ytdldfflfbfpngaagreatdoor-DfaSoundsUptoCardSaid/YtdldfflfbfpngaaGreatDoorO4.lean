/- A row that grows, whose elements are rows that grow; those at its front are written no more. The least unlike parts of sets: walked. -/
import Derived.Test.YtdldfflfbfpngaaGreatDoorE4
import Derived.Test.YtdldfflfbfpngaaGreatDoorO3
set_option linter.unusedVariables false
set_option linter.unusedSimpArgs false
namespace Go.Proofs.YtdldfflfbfpngaaGreatDoor
open Go
structure NestAt (h : Heap) (v : AV) (pre ws : List AV) (ds : List (Nat × Nat × List AV)) : Prop where
 out : IsRow h v 1 (pre.length + ws.length) (pre ++ ws)
 fam : Fam h ws ds
 apart : ∀ w ∈ ws, ∀ k, w.rowId = some k → v.rowId ≠ some k
def inNest (v : AV) (ws : List AV) (k : Nat) : Prop := v.rowId = some k ∨ ∃ w ∈ ws, w.rowId = some k
theorem NestAt.there {h : Heap} {v : AV} {pre ws : List AV} {ds : List (Nat × Nat × List AV)} (hN : NestAt h v pre ws ds) {k : Nat} (hk : inNest v ws k) : h.get k ≠ none := by
 rcases hk with hk | ⟨w, hw, hk⟩
 ·exact hN.out.there hk
 ·exact hN.fam.there hw hk
theorem NestAt.keep {h h' : Heap} {v : AV} {pre ws : List AV} {ds : List (Nat × Nat × List AV)} (hN : NestAt h v pre ws ds) (hk : ∀ k, inNest v ws k → h'.get k = h.get k) : NestAt h' v pre ws ds :=
 ⟨hN.out.keep fun k hv => hk k (.inl hv), hN.fam.keep fun w hw k hid => hk k (.inr ⟨w, hw, hid⟩), hN.apart⟩
theorem NestAt.nil (h : Heap) : NestAt h (.rd 0 [] true) [] [] [] :=
 ⟨IsRow.nil _ _, ⟨rfl, fun j w d hw => by simp at hw, fun i j w w' id hw => by simp at hw⟩, fun w hw => by cases hw⟩
theorem Fam.snoc {h : Heap} {ws : List AV} {ds : List (Nat × Nat × List AV)} (hF : Fam h ws ds) (e : Nat) : Fam h (ws ++ [.rd 0 [] true]) (ds ++ [(e, 0, [])]) := by
 have hget : ∀ (j : Nat) x, (ws ++ [AV.rd 0 [] true])[j]? = some x → (j < ws.length ∧ ws[j]? = some x) ∨ (j = ws.length ∧ x = .rd 0 [] true) := fun j x hx => by
  by_cases h1 : j < ws.length
  ·rw [List.getElem?_append_left h1] at hx
   exact .inl ⟨h1, hx⟩
  ·have h2 := lt_of_getElem? hx
   rw [List.length_append, List.length_singleton] at h2
   have h3 : j = ws.length := by omega
   subst h3
   rw [List.getElem?_append_right (Nat.le_refl _), Nat.sub_self] at hx
   simp at hx
   exact .inr ⟨rfl, hx.symm⟩
 refine ⟨by simp [hF.len], fun j w d hw hd => ?_, fun i j w w' id hw hw' hid hid' => ?_⟩
 ·rcases hget j w hw with ⟨h1, h2⟩ | ⟨rfl, rfl⟩
  ·rw [List.getElem?_append_left (by rw [← hF.len]; exact h1)] at hd
   exact hF.row j w d h2 hd
  ·rw [List.getElem?_append_right (by rw [hF.len]; exact Nat.le_refl _), hF.len, Nat.sub_self] at hd
   simp at hd
   subst hd
   exact IsRow.nil _ _
 ·rcases hget i w hw with ⟨h1, h2⟩ | ⟨rfl, rfl⟩
  ·rcases hget j w' hw' with ⟨h3, h4⟩ | ⟨rfl, rfl⟩
   ·exact hF.dis i j w w' id h2 h4 hid hid'
   ·cases hid'
  ·cases hid
theorem NestAt.more {h hpa : Heap} {v va : AV} {ws : List AV} {ds : List (Nat × Nat × List AV)} (e : Nat) (hN : NestAt h v [] ws ds) (hra : IsRow hpa va 1 (ws.length + 1) (ws ++ [.rd 0 [] true]))
  (hka : ∀ k, h.get k ≠ none → v.rowId ≠ some k → hpa.get k = h.get k) (hria : ∀ k, va.rowId = some k → v.rowId = some k ∨ h.get k = none) :
  NestAt hpa va [] (ws ++ [.rd 0 [] true]) (ds ++ [(e, 0, [])]) ∧ ∀ k, inNest va (ws ++ [.rd 0 [] true]) k → inNest v ws k ∨ h.get k = none := by
 refine ⟨⟨by simpa using hra, (hN.fam.keep fun w hw k hk => hka k (hN.fam.there hw hk) (hN.apart w hw k hk)).snoc e, fun w hw k hk hv => ?_⟩, fun k hk => ?_⟩
 ·rcases List.mem_append.1 hw with hw | hw
  ·rcases hria k hv with h1 | h1
   ·exact hN.apart w hw k hk h1
   ·exact hN.fam.there hw hk h1
  ·simp only [List.mem_singleton] at hw; subst hw; cases hk
 ·rcases hk with hk | ⟨w, hw, hk⟩
  ·rcases hria k hk with h1 | h1
   ·exact .inl (.inl h1)
   ·exact .inr h1
  ·rcases List.mem_append.1 hw with hw | hw
   ·exact .inl (.inr ⟨w, hw, hk⟩)
   ·simp only [List.mem_singleton] at hw; subst hw; cases hk
theorem NestAt.put {h hpa : Heap} {v : AV} {ws : List AV} {ds : List (Nat × Nat × List AV)} (hN : NestAt h v [] ws ds) {j id g : Nat} {w va : AV} {d' : Nat × Nat × List AV} (hv : v = .own id g 1 0 ws.length none) (hw : ws[j]? = some w)
  (hrow : IsRow hpa va d'.1 d'.2.1 d'.2.2) (hka : ∀ k, h.get k ≠ none → w.rowId ≠ some k → hpa.get k = h.get k) (hria : ∀ k, va.rowId = some k → w.rowId = some k ∨ h.get k = none) :
  NestAt (hpa.set id (.cells g (ws.set j va))) v [] (ws.set j va) (ds.set j d') ∧ hpa.get id = some (.cells g ws) ∧ ∀ k, inNest v (ws.set j va) k → inNest v ws k ∨ h.get k = none := by
 have hwm := List.mem_of_getElem? hw
 have hvi : v.rowId = some id := by rw [hv]; rfl
 obtain ⟨h1, h2⟩ : h.get id = some (.cells g ws) ∧ 1 ≤ g := by
  rcases hN.out with ⟨e, _⟩ | ⟨id', g', e, k1, k2, _⟩
  ·rw [hv] at e; cases e
  ·rw [hv] at e
   injection e with e1 e2
   subst e1 e2
   exact ⟨by simpa using k1, k2⟩
 have hwid : w.rowId ≠ some id := fun e => hN.apart w hwm id e hvi
 have h3 : hpa.get id = some (.cells g ws) := (hka id (by rw [h1]; simp) hwid).trans h1
 have hF := hN.fam.upd (j := j) (w := w) (v' := va) (d' := d') hw hrow hka hria
 have hap : ∀ x ∈ ws.set j va, ∀ k, x.rowId = some k → v.rowId ≠ some k := fun x hx k hk hvk => by
  rcases List.mem_or_eq_of_mem_set hx with hx | rfl
  ·exact hN.apart x hx k hk hvk
  ·rcases hria k hk with h4 | h4
   ·exact hN.apart w hwm k h4 hvk
   ·exact hN.out.there hvk h4
 refine ⟨⟨.inr ⟨id, g, ?_, ?_, h2, ?_⟩, hF.keep fun x hx k hk => Heap.get_set_ne _ _ fun e => hap x hx k hk (e ▸ hvi), hap⟩, h3, fun k hk => ?_⟩
 ·rw [hv]; simp
 ·rw [Heap.get_set_self]; rfl
 ·simp
 ·rcases hk with hk | ⟨x, hx, hk⟩
  ·exact .inl (.inl hk)
  ·rcases List.mem_or_eq_of_mem_set hx with hx | rfl
   ·exact .inl (.inr ⟨x, hx, hk⟩)
   ·rcases hria k hk with h4 | h4
    ·exact .inl (.inr ⟨w, hwm, h4⟩)
    ·exact .inr h4
theorem NestAt.own {h : Heap} {v : AV} {pre ws : List AV} {ds : List (Nat × Nat × List AV)} (hN : NestAt h v pre ws ds) (h0 : 0 < pre.length + ws.length) : ∃ id g, v = .own id g 1 0 (pre.length + ws.length) none ∧ h.get id = some (.cells g (pre ++ ws)) ∧ 1 ≤ g := by
 rcases hN.out with ⟨_, e, _⟩ | ⟨id, g, e, k1, k2, _⟩
 ·omega
 ·exact ⟨id, g, e, k1, k2⟩
theorem NestAt.next {h : Heap} {v w x : AV} {pre ws : List AV} {d : Nat × Nat × List AV} {ds : List (Nat × Nat × List AV)} (hN : NestAt h v pre (w :: ws) (d :: ds)) {id g : Nat} (hv : v = .own id g 1 0 (pre.length + (ws.length + 1)) none) (hg : h.get id = some (.cells g (pre ++ w :: ws))) (h2 : 1 ≤ g) :
  (h.drop fun k => w.rowId = some k).get id = some (.cells g (pre ++ w :: ws)) ∧ NestAt ((h.drop fun k => w.rowId = some k).set id (.cells g ((pre ++ [x]) ++ ws))) v (pre ++ [x]) ws ds := by
 have hvi : v.rowId = some id := by rw [hv]; rfl
 have hwid : w.rowId ≠ some id := fun e => hN.apart w (by simp) id e hvi
 refine ⟨?_, .inr ⟨id, g, ?_, Heap.get_set_self _ _ _, h2, by simp; omega⟩, ?_, fun y hy => hN.apart y (by simp [hy])⟩
 ·simp only [Heap.drop]
  rw [if_neg hwid]; exact hg
 ·rw [hv]; simp; omega
 ·have hF : Fam h ws ds := by
   refine ⟨by simpa using hN.fam.len, fun j y d' hy hd => hN.fam.row (j + 1) y d' hy hd, fun i j y y' k hy hy' hk hk' => ?_⟩
   have := hN.fam.dis (i + 1) (j + 1) y y' k hy hy' hk hk'
   omega
  refine hF.keep fun y hy k hk => ?_
  have h5 : k ≠ id := fun e => hN.apart y (by simp [hy]) k hk (e ▸ hvi)
  have h6 : w.rowId ≠ some k := fun e => by
   obtain ⟨j, hj, rfl⟩ := List.getElem_of_mem hy
   have := hN.fam.dis 0 (j + 1) w ws[j] k rfl (List.getElem?_eq_getElem hj) e hk
   omega
  rw [Heap.get_set_ne _ _ h5]
  simp only [Heap.drop]
  rw [if_neg h6]
@[reducible] def cNest (v : AV) (pre ws : List AV) (ds : List (Nat × Nat × List AV)) : Chunk :=
 ⟨inNest v ws, fun h => NestAt h v pre ws ds, fun h1 h2 => h1.keep h2, fun h1 k hk => h1.there hk⟩
theorem Sep.nmore {h hpa : Heap} {cs : List Chunk} (hS : Sep h cs) (i e : Nat) {v va : AV} {ws : List AV} {ds : List (Nat × Nat × List AV)} (hc : cs[i]? = some (cNest v [] ws ds)) (hra : IsRow hpa va 1 (ws.length + 1) (ws ++ [.rd 0 [] true]))
  (hka : ∀ k, h.get k ≠ none → v.rowId ≠ some k → hpa.get k = h.get k) (hria : ∀ k, va.rowId = some k → v.rowId = some k ∨ h.get k = none) : Sep hpa (cs.set i (cNest va [] (ws ++ [.rd 0 [] true]) (ds ++ [(e, 0, [])]))) := by
 have hN : NestAt h v [] ws ds := hS.get hc
 obtain ⟨n1, n2⟩ := hN.more e hra hka hria
 exact hS.upd i _ hc n1 (fun k hk hf => hka k hk fun e => hf (.inl e)) n2
theorem Sep.nput {h hpa : Heap} {cs : List Chunk} (hS : Sep h cs) (i : Nat) {v : AV} {ws : List AV} {ds : List (Nat × Nat × List AV)} (hc : cs[i]? = some (cNest v [] ws ds)) {j id g : Nat} {w va : AV} (d' : Nat × Nat × List AV) (hv : v = .own id g 1 0 ws.length none) (hw : ws[j]? = some w)
  (hrow : IsRow hpa va d'.1 d'.2.1 d'.2.2) (hka : ∀ k, h.get k ≠ none → w.rowId ≠ some k → hpa.get k = h.get k) (hria : ∀ k, va.rowId = some k → w.rowId = some k ∨ h.get k = none) :
  Sep (hpa.set id (.cells g (ws.set j va))) (cs.set i (cNest v [] (ws.set j va) (ds.set j d'))) ∧ hpa.get id = some (.cells g ws) := by
 have hN : NestAt h v [] ws ds := hS.get hc
 obtain ⟨n1, n2, n3⟩ := hN.put (d' := d') hv hw hrow hka hria
 have hvi : v.rowId = some id := by rw [hv]; rfl
 refine ⟨hS.upd i _ hc n1 (fun k hk hf => ?_) n3, n2⟩
 have hki : k ≠ id := fun e => hf (.inl (by rw [e]; exact hvi))
 rw [Heap.get_set_ne _ _ hki]
 exact hka k hk fun e => hf (.inr ⟨w, List.mem_of_getElem? hw, e⟩)
end Go.Proofs.YtdldfflfbfpngaaGreatDoor
set_option linter.unusedVariables false
set_option linter.unusedSimpArgs false
namespace Go.Proofs.YtdldfflfbfpngaaGreatDoor
open Go
set_option maxHeartbeats 4000000
def nvS (l : List Span) : AV := .rd l.length (l.flatMap Span.av) false
def spD (r : List Span) : Nat × Nat × List AV := (2, r.length, r.flatMap Span.av)
def termsR (S : List (Rw Span)) : Rw (Rw Span) := ⟨(partsT (normR S) (edgeE (normR S))).map fun l => ⟨l, false⟩, false⟩
theorem normR_range {S : List (Rw Span)} : ∀ s ∈ normR S, ∀ t ∈ s.l, 0 ≤ t.lo ∧ t.lo ≤ t.hi ∧ t.hi ≤ 1114111 := fun s hs t ht => by
 have hn := normR_norm S s hs
 have h1 := (canon_norm hn).2 t ht
 have h2 := scal_iff.1 (norm_scal hn ⟨t, ht, Int.le_refl _, h1⟩)
 have h3 := scal_iff.1 (norm_scal hn ⟨t, ht, h1, Int.le_refl _⟩)
 omega
theorem normR_cat (S : List (Rw Span)) : (catS (normR S)).length ≤ 2 * (catS S).length := by
 induction S with
 | nil => simp [normR, catS]
 | cons s S ih =>
  have e1 : catS (normR (s :: S)) = normS s.l ++ catS (normR S) := rfl
  have e2 : catS (s :: S) = s.l ++ catS S := rfl
  have := normS_length s.l
  rw [e1, e2, List.length_append, List.length_append]
  omega
theorem edgeE_len (S : List (Rw Span)) : (edgeE S).length ≤ 2 * (catS S).length := by
 have h1 : (edgeE S).length = (firsts (boundS S)).length := by simp [edgeE]
 have h2 := firsts_length (boundS S)
 rw [boundS_length] at h2
 omega
theorem runT_len (S : List (Rw Span)) (e : List Int) : ∀ i, (runT S e i).1.length = (runT S e i).2.length ∧ (runT S e i).1.length ≤ i ∧ ∀ o ∈ (runT S e i).2, o.length ≤ i
 | 0 => ⟨rfl, Nat.le_refl _, fun o ho => by cases ho⟩
 | i + 1 => by
  obtain ⟨h1, h2, h3⟩ := runT_len S e i
  rw [runT]
  generalize runT S e i = st at h1 h2 h3 ⊢
  unfold stepT
  split
  ·exact ⟨h1, by omega, fun o ho => by have := h3 o ho; omega⟩
  ·split
   ·refine ⟨by simp [h1], by simp; omega, fun o ho => ?_⟩
    rcases List.mem_or_eq_of_mem_set ho with ho | rfl
    ·have := h3 o ho; omega
    ·rw [List.length_append, List.length_singleton, List.getD_eq_getElem?_getD]
     cases hk : st.2[st.1.idxOf (wordT S (e.getD i 0))]? with
     | none => simp
     | some x =>
      have := h3 x (List.mem_of_getElem? hk)
      simp; omega
   ·refine ⟨by simp [h1], by simp; omega, fun o ho => ?_⟩
    rcases List.mem_append.1 ho with ho | ho
    ·have := h3 o ho; omega
    ·simp only [List.mem_singleton] at ho; subst ho; simp
theorem st_eqlS {F : FnSem} {r : List DOper} {Q : Env → Heap → Prop} {env : Env} {h : Heap} {d : Nat} {x y : DOpd} {a b : List UInt8} {t : Bool} (hx : ev env x = .str a) (hy : ev env y = .str b) (ht : decide (a = b) = t) (k : wops F r Q (env.put d (.bool t)) h) : wops F (⟨some d, .bin .eql x y, none⟩ :: r) Q env h := by
 subst ht
 simp [hx, hy, binop, k]
theorem beq_uniq {α : Type} (i1 i2 : BEq α) (h1 : @LawfulBEq α i1) (h2 : @LawfulBEq α i2) : i1 = i2 := by
 cases i1 with
 | mk f => cases i2 with
  | mk g =>
   congr
   funext a b
   rw [Bool.eq_iff_iff]
   exact (@beq_iff_eq α ⟨f⟩ h1 a b).trans (@beq_iff_eq α ⟨g⟩ h2 a b).symm
theorem placeOf_idx (W : List (List UInt8)) (w : List UInt8) : placeOf W w = W.idxOf w := by
 unfold placeOf
 rw [beq_uniq instBEqOfDecidableEq List.instBEq inferInstance inferInstance]
attribute [local irreducible] wops xcode wcode seqK blockK loopK finK wcall wop wstp Runs
set_option maxRecDepth 100000 in
theorem terms_ok {Φ : Lib} (L1 : C1Lib Φ) (SL : SortLib Φ) (L5 : LibC5 Φ) (KL : KeyLib Φ) (S : Rw (Rw Span)) (hS : S.l.length ≤ 100000) (hl : ∀ s ∈ S.l, s.l.length ≤ 100000) (hc : (catS S.l).length ≤ 100000) : Pure Φ 176 [S.mv Rw.sv] ((termsR S.l).mv Rw.sv) := by
 have hNl : (normR S.l).length = S.l.length := by simp [normR]
 have hNr := normR_range (S := S.l)
 have hNc := normR_cat S.l
 have hNs : ∀ s ∈ normR S.l, s.l.length ≤ 200000 := fun s hs => by
  obtain ⟨t, ht, rfl⟩ := List.mem_map.1 hs
  have h1 := hl t ht
  have h2 := normS_length t.l
  show (normS t.l).length ≤ _
  omega
 have hek := edgeE_len (normR S.l)
 refine runs_of (fun o => o == some 30 || o == some 64) rfl L5.f176 ?_
 repeat' first | refine st_nil ?_ | (refine gw ?_; first | (refine gq0 ?_; first | refine st_mv (v := AV.int _ _) rfl ?_ | refine st_mv (v := AV.rd _ _ _) rfl ?_ | refine st_mv (v := AV.own _ _ _ _ _ _) rfl ?_) | refine st_len_rd rfl ?_ | (refine st_mkslice rfl rfl (by omega) (by omega) ?_; intro id hid; try simp only [Heap.set_none] at hid)) | (refine gx ?_; first | refine sx_seq ?_ | refine sx_ops rfl ?_ | refine sx_block ?_) | refine sk_norm ?_
 refine sx_for S.l.length (fun i env h' => h'.get id = some (.cells 1 ((normR (S.l.take i)).map Rw.sv ++ List.replicate (S.l.length - i) (.rd 0 [] true))) ∧ env.has [(0, S.mv Rw.sv), (3, .own id 1 1 0 S.l.length none), (17, S.mv Rw.sv), (18, .int .i64 S.l.length), (19, .int .i64 i)]) ⟨?_, hh_⟩ ?_
 ·rw [Heap.get_set_self]
  simp [normR]
 rintro i env h' hi ⟨hx, he⟩
 obtain ⟨env, rfl⟩ := he.ex
 clear he
 by_cases hi2 : i < S.l.length
 ·obtain ⟨s, hs⟩ := ex_get hi2
  have kn := norm_ok L1 SL s.l (by have := hl s (List.mem_of_getElem? hs); omega) s.fl
  repeat' first | refine st_nil ?_ | (refine gw ?_; first | (refine gq0 ?_; first | refine st_mv (v := AV.int _ _) rfl ?_ | refine st_mv (v := AV.rd _ _ _) rfl ?_ | refine st_mv (v := AV.own _ _ _ _ _ _) rfl ?_) | refine st_load_r rfl b_ pv_ ?_ | (refine st_lss rfl rfl rfl ?_ ?_ <;> (intro hc; try (exfalso; omega))) | (refine gq5 ?_; first | refine st_index_map' rfl rfl hs (by omega) rfl ?_ | refine st_index_own rfl rfl (by omega) (by omega) ?_) | refine st_call rfl nt_ ?_) | (refine gx ?_; first | refine sx_seq ?_ | refine sx_ops rfl ?_ | refine sx_skip ?_ | refine sx_block ?_ | refine sx_cond_t rfl ?_) | refine sk_norm ?_ | refine call_pure (by assumption) fz_ fz_ ?_
  have hnl : (normR (S.l.take i)).length = i := by simp [normR]; omega
  refine st_store_lit (v := nvS (normS s.l)) (cs' := (normR (S.l.take (i + 1))).map Rw.sv ++ List.replicate (S.l.length - (i + 1)) (.rd 0 [] true)) rfl rfl rfl rfl hx ?_ ?_ ?_
  ·rw [List.length_append, List.length_map, hnl, List.length_replicate]
   simp only [Int.toNat_natCast]
   omega
  ·simp only [Int.toNat_natCast, Nat.zero_add, Nat.mul_one]
   rw [fill_set (by rw [List.length_map]; exact hnl) hi2, take_snoc hs]
   simp [normR, nvS]
  repeat' first | refine st_nil ?_ | (refine gw ?_; first | refine st_mv (v := AV.int _ _) rfl ?_ | refine st_add rfl rfl rfl (by omega) (by omega) ?_) | refine sx_ops rfl ?_ | refine sk_norm ?_ | refine bk_norm ?_
  exact lk_next hi2 ⟨Heap.get_set_self _ _ _, hh_⟩
 ·have hii : i = S.l.length := by omega
  subst hii
  rw [List.take_of_length_le (Nat.le_refl _), Nat.sub_self, List.replicate_zero, List.append_nil] at hx
  have hrow : IsRow h' (.own id 1 1 0 S.l.length none) 1 S.l.length ((normR S.l).map Rw.sv) := .inr ⟨id, 1, rfl, hx, Nat.le_refl _, by simp [normR]⟩
  repeat' first | refine st_nil ?_ | (refine st_lss rfl rfl rfl ?_ ?_ <;> (intro hc; try (exfalso; omega))) | (refine gx ?_; first | refine sx_seq ?_ | refine sx_ops rfl ?_ | refine sx_exit ?_ | refine sx_cond_f rfl ?_) | refine sk_norm ?_ | refine sk_exit ?_ | refine bk_exit ?_ | refine lk_exit ?_
  refine sx_freeze 3 (v := .own id 1 1 0 S.l.length none) rfl rfl hrow ?_
  intro h2 hk2
  clear hx hrow hk2
  generalize hNe : normR S.l = N at *
  have ke := tedges_ok L5 KL N false (by omega) (by omega) hNr
  have hE : EdgesOf N (edgeE N) := edgeE_ok fun s hs => by rw [← hNe] at hs; exact normR_norm _ s hs
  generalize hee : edgeE N = e at *
  have her : ∀ x ∈ e, 0 ≤ x ∧ x ≤ 1114112 := fun x hx => by
   obtain ⟨s, hs, t, ht, h1⟩ := (hE.mem x).1 hx
   have := hNr s hs t ht
   omega
  rw [← hNl]
  repeat' first | refine st_nil ?_ | (refine gw ?_; first | (refine gq0 ?_; first | refine st_mv (v := AV.int _ _) rfl ?_ | refine st_mv (v := AV.rd _ _ _) rfl ?_ | refine st_mv (v := AV.map _) rfl ?_) | refine st_call rfl nt_ ?_ | (refine st_mkmap ?_; intro id hid; try simp only [Heap.set_none] at hid)) | (refine gx ?_; first | refine sx_seq ?_ | refine sx_ops rfl ?_ | refine sx_block ?_) | refine sk_norm ?_ | refine call_pure (by assumption) fz_ fz_ ?_
  obtain ⟨im, rfl⟩ : ∃ x, x = id := ⟨_, rfl⟩
  have hS0 : Sep (h2.set im (.map none [])) [cOld h2, cCell im (.map none []), cNest (.rd 0 [] true) [] [] []] := ((Sep.old h2).new hid).add (cNest _ [] [] []) (NestAt.nil _) (fun _ _ => rfl) (fun k hk => by
   rcases hk with hk | ⟨w, hw, _⟩
   ·cases hk
   ·cases hw)
  refine sx_for (e.length - 1) (fun i env h' => ∃ v ws, Sep h' [cOld h2, cCell im (.map none (entsFrom AV.str 0 (runT N e i).1)), cNest v [] ws ((runT N e i).2.map spD)] ∧ env.has [(3, .rd N.length (N.map Rw.sv) false), (6, .map im), (7, v), (8, rowI e), (9, .int .i64 i)]) ⟨_, _, hS0, hh_⟩ ?_
  clear hS0 hid
  rintro i env h' hi ⟨v, ws, hSp, he⟩
  obtain ⟨W, O, hst⟩ : ∃ W O, runT N e i = (W, O) := ⟨_, _, rfl⟩
  obtain ⟨hWO, hWi, hOi⟩ := runT_len N e i
  rw [hst] at hSp hWO hWi hOi
  simp only at hSp hWO hWi hOi
  have hm : h'.get im = some (.map none (entsFrom AV.str 0 W)) := hSp.get (i := 1) rfl
  have hN : NestAt h' v [] ws (O.map spD) := hSp.get (i := 2) rfl
  have hwl : ws.length = O.length := by simpa using hN.fam.len
  have hrow : IsRow h' v 1 ws.length ws := by simpa using hN.out
  have hnt := hrow.notTup
  obtain ⟨env, rfl⟩ := he.ex
  clear he
  by_cases hi2 : i < e.length - 1
  ·obtain ⟨a, ha⟩ := ex_get (l := e) (i := i) (by omega)
   obtain ⟨b, hb⟩ := ex_get (l := e) (i := i + 1) (by omega)
   have har := her a (List.mem_of_getElem? ha)
   have hbr := her b (List.mem_of_getElem? hb)
   have hrn : runT N e (i + 1) = stepT N (W, O) a b := by
    rw [runT, hst, List.getD_eq_getElem?_getD, List.getD_eq_getElem?_getD, ha, hb]
    rfl
   have kw := tword_ok L1 L5 N false (by omega) (fun s hs => by have := hNs s hs; omega) a
   generalize hww : wordT N a = w at kw
   unfold stepT at hrn
   rw [hww] at hrn
   by_cases hw0 : w = []
   ·subst hw0
    rw [if_pos rfl] at hrn
    repeat' first | refine st_nil ?_ | (refine gw ?_; first | (refine gq0 ?_; first | refine st_mv (v := AV.int _ _) rfl ?_ | refine st_mv (v := AV.rd _ _ _) rfl ?_ | refine st_mv (v := AV.str _) rfl ?_) | refine st_load_r rfl b_ pv_ ?_ | (refine gq3 ?_; first | refine st_add rfl rfl rfl (by omega) (by omega) ?_ | (refine st_lss rfl rfl rfl ?_ ?_ <;> (intro hc; try (exfalso; omega)))) | refine st_index_map' rfl rfl ha (by omega) rfl ?_ | refine st_len_rd rfl ?_ | refine st_call rfl nt_ ?_) | (refine gx ?_; first | refine sx_seq ?_ | refine sx_ops rfl ?_ | refine sx_skip ?_ | refine sx_block ?_ | refine sx_cond_t rfl ?_) | refine sk_norm ?_ | refine call_pure (by assumption) fz_ fz_ ?_
    refine st_eqlS (t := true) rfl rfl rfl ?_
    repeat' first | refine st_nil ?_ | (refine gw ?_; first | refine st_mv (v := AV.int _ _) rfl ?_ | refine st_add rfl rfl rfl (by omega) (by omega) ?_) | (refine gx ?_; first | refine sx_ops rfl ?_ | refine sx_exit ?_ | refine sx_cond_t rfl ?_) | refine sk_norm ?_ | refine sk_exit ?_ | refine bk_exit ?_
    refine lk_next hi2 ⟨v, ws, ?_, hh_⟩
    rw [hrn]
    exact hSp
   ·rw [if_neg hw0] at hrn
    repeat' first | refine st_nil ?_ | (refine gw ?_; first | (refine gq0 ?_; first | refine st_mv (v := AV.int _ _) rfl ?_ | refine st_mv (v := AV.rd _ _ _) rfl ?_ | refine st_mv (v := AV.str _) rfl ?_) | refine st_load_r rfl b_ pv_ ?_ | (refine gq3 ?_; first | refine st_add rfl rfl rfl (by omega) (by omega) ?_ | (refine st_lss rfl rfl rfl ?_ ?_ <;> (intro hc; try (exfalso; omega)))) | refine st_index_map' rfl rfl ha (by omega) rfl ?_ | refine st_len_rd rfl ?_ | refine st_call rfl nt_ ?_) | (refine gx ?_; first | refine sx_seq ?_ | refine sx_ops rfl ?_ | refine sx_skip ?_ | refine sx_block ?_ | refine sx_cond_t rfl ?_) | refine sk_norm ?_ | refine call_pure (by assumption) fz_ fz_ ?_
    refine st_eqlS (t := false) rfl rfl (decide_eq_false hw0) ?_
    repeat' first | refine st_nil ?_ | (refine gq0 ?_; first | refine st_mv (v := AV.str _) rfl ?_ | refine st_mv (v := AV.map _) rfl ?_) | (refine gx ?_; first | refine sx_seq ?_ | refine sx_ops rfl ?_ | refine sx_skip ?_ | refine sx_cond_f rfl ?_) | refine sk_norm ?_
    refine st_lookup2 (key := AV.str w) rfl rfl rfl hm ?_
    rw [alook_ents str_inj]
    by_cases hmem : w ∈ W
    ·rw [if_pos hmem] at hrn ⊢
     have hkl : W.idxOf w < W.length := List.idxOf_lt_length_of_mem hmem
     rw [Nat.zero_add, placeOf_idx]
     simp only at hrn
     generalize W.idxOf w = k at hrn hkl ⊢
     obtain ⟨wv, hwv⟩ := ex_get (l := ws) (i := k) (by omega)
     obtain ⟨o, ho⟩ := ex_get (l := O) (i := k) (by omega)
     have hol := hOi o (List.mem_of_getElem? ho)
     have hin : IsRow h' wv 2 o.length (o.flatMap Span.av) := hN.fam.row k wv (spD o) hwv (by rw [List.getElem?_map, ho]; rfl)
     have hntw := hin.notTup
     rw [List.getD_eq_getElem?_getD, ho, Option.getD_some] at hrn
     repeat' first | refine st_nil ?_ | (refine gw ?_; first | (refine gq0 ?_; first | refine st_mv (v := AV.int _ _) rfl ?_ | refine st_mv (v := AV.bool _) rfl ?_ | refine st_mv (v := AV.tup _) rfl ?_) | refine st_not (b := true) rfl ?_ | refine st_extract rfl rfl ?_) | (refine gx ?_; first | refine sx_seq ?_ | refine sx_ops rfl ?_ | refine sx_skip ?_ | refine sx_cond_f rfl ?_) | refine sk_norm ?_
     refine sx_opsZ rfl ?_
     repeat' first | (refine gw ?_; first | (refine gq0 ?_; first | refine st_mv (v := AV.int _ _) rfl ?_ | refine st_mv (v := AV.rd _ _ _) rfl ?_ | refine st_mv rv_ ?_) | (refine gq2 ?_; first | refine st_load_raw (g := _) rfl hg_ hwv eq_ (by simp) ?_ | refine st_load_r rfl b_ pv_ ?_) | (refine gq3 ?_; first | refine st_add rfl rfl rfl (by omega) (by omega) ?_ | refine st_sub rfl rfl rfl (by omega) (by omega) ?_) | (refine gq5 ?_; first | refine st_index_map' rfl rfl ha (by omega) rfl ?_ | refine st_index_map' rfl rfl hb (by omega) rfl ?_ | (refine st_index_row rv_ (by assumption) rfl (by omega) (by omega) ?_; intro ir gr hvr hgr hgp; have hner := Heap.ne_of hgr; have hner2 := Heap.ne_of2 hgr)) | (refine st_append (m := 1) rv_ ir_ rfl rfl (by omega) ?_; intro va hpa hra hka hria) | refine st_build (cs := [AV.int _ _, AV.int _ _]) rfl ?_ | refine st_lit (cs := [AV.int _ _, AV.int _ _]) rfl rfl ?_)
     subst hvr
     have hra2 : IsRow hpa va (spD (o ++ [⟨a, b - 1⟩])).1 (spD (o ++ [⟨a, b - 1⟩])).2.1 (spD (o ++ [⟨a, b - 1⟩])).2.2 := by
      simpa [spD, Span.av] using hra
     obtain ⟨hS3, hg3⟩ := hSp.nput 2 rfl (spD (o ++ [⟨a, b - 1⟩])) rfl hwv hra2 hka hria
     refine st_store_row (v := va) (cs' := ws.set k va) rfl rfl hra hg3 ?_ ?_ ?_
     ·simp; omega
     ·simp
     repeat' first | refine st_nil ?_ | (refine gw ?_; first | refine st_mv (v := AV.int _ _) rfl ?_ | refine st_add rfl rfl rfl (by omega) (by omega) ?_) | refine sx_ops rfl ?_ | refine sk_norm ?_ | refine bk_norm ?_
     refine lk_next hi2 ⟨_, ws.set k va, ?_, hh_⟩
     rw [hrn]
     simp only [List.map_set, List.length_set]
     exact hS3
    ·rw [if_neg hmem] at hrn ⊢
     simp only at hrn
     repeat' first | refine st_nil ?_ | (refine gw ?_; first | (refine gq0 ?_; first | refine st_mv (v := AV.int _ _) rfl ?_ | refine st_mv (v := AV.bool _) rfl ?_ | refine st_mv (v := AV.str _) rfl ?_ | refine st_mv (v := AV.tup _) rfl ?_ | refine st_mv (v := AV.map _) rfl ?_ | refine st_mv rv_ ?_) | refine st_len_row rv_ (by assumption) ?_ | refine st_not (b := false) rfl ?_ | refine st_extract rfl rfl ?_) | (refine gx ?_; first | refine sx_seq ?_ | refine sx_ops rfl ?_ | refine sx_cond_t rfl ?_) | refine sk_norm ?_
     refine st_update (key := AV.str w) (v := AV.int .i64 ws.length) rfl rfl rfl rfl rfl hm ?_
     have he2 := aput_ents str_inj w W 0 hmem
     rw [Nat.zero_add, hWO, ← hwl] at he2
     rw [he2]
     clear he2
     have hS2 := hSp.put 1 (.map none (entsFrom AV.str 0 (W ++ [w]))) rfl
     have hrow2 : IsRow (h'.set im (.map none (entsFrom AV.str 0 (W ++ [w])))) v 1 ws.length ws := by
      have h9 : NestAt _ v [] ws (O.map spD) := hS2.get (i := 2) rfl
      simpa using h9.out
     clear hrow
     repeat' first | refine st_nil ?_ | (refine gw ?_; first | refine st_mv rv_ ?_ | (refine st_append (m := 1) rv_ ir_ rfl rfl (by omega) ?_; intro va hpa hra hka hria) | refine st_lit (cs := [AV.rd _ _ _]) rfl rfl ?_) | refine sx_ops rfl ?_ | refine sk_norm ?_
     refine sx_opsZ rfl ?_
     have hS4 := hS2.nmore 2 2 rfl hra hka hria
     have hN4 : NestAt hpa va [] (ws ++ [.rd 0 [] true]) (O.map spD ++ [(2, 0, [])]) := hS4.get (i := 2) rfl
     obtain ⟨ir, gr, hvr, hgr, hgp⟩ := hN4.own (by simp)
     have hlen : ([] : List AV).length + (ws ++ [AV.rd 0 [] true]).length = (ws ++ [AV.rd 0 [] true]).length := by simp
     rw [hlen] at hvr
     rw [List.nil_append] at hgr
     obtain ⟨v2, rfl⟩ : ∃ x, x = va := ⟨_, rfl⟩
     have hrow4 : IsRow hpa v2 1 (ws ++ [AV.rd 0 [] true]).length (ws ++ [AV.rd 0 [] true]) := by simpa using hra
     clear hra hka hria hrow2
     have hwv : (ws ++ [AV.rd 0 [] true])[ws.length]? = some (.rd 0 [] true) := by simp
     have hlt : ws.length < (ws ++ [AV.rd 0 [] true]).length := by simp
     have hl2 : (ws ++ [AV.rd 0 [] true]).length = (O ++ [([] : List Span)]).length := by simp [hwl]
     have hin : IsRow hpa (.rd 0 [] true) 2 0 [] := IsRow.nil _ _
     generalize ws ++ [AV.rd 0 [] true] = ws2 at hS4 hN4 hvr hgr hrow4 hwv hlt hl2
     subst hvr
     repeat' first | (refine gw ?_; first | (refine gq0 ?_; first | refine st_mv (v := AV.int _ _) rfl ?_ | refine st_mv (v := AV.rd _ _ _) rfl ?_ | refine st_mv (v := AV.own _ _ _ _ _ _) rfl ?_) | (refine gq2 ?_; first | refine st_load_raw (g := _) rfl hg_ hwv eq_ (by simp) ?_ | refine st_load_r rfl b_ pv_ ?_) | (refine gq3 ?_; first | refine st_add rfl rfl rfl (by omega) (by omega) ?_ | refine st_sub rfl rfl rfl (by omega) (by omega) ?_) | (refine gq5 ?_; first | refine st_index_map' rfl rfl ha (by omega) rfl ?_ | refine st_index_map' rfl rfl hb (by omega) rfl ?_ | refine st_index_own rfl rfl (by omega) (by omega) ?_) | (refine st_append (m := 1) rv_ ir_ rfl rfl (by omega) ?_; intro va hpa hra hka hria) | refine st_build (cs := [AV.int _ _, AV.int _ _]) rfl ?_ | refine st_lit (cs := [AV.int _ _, AV.int _ _]) rfl rfl ?_)
     have hra2 : IsRow hpa va (spD [⟨a, b - 1⟩]).1 (spD [⟨a, b - 1⟩]).2.1 (spD [⟨a, b - 1⟩]).2.2 := by
      simpa [spD, Span.av] using hra
     obtain ⟨hS3, hg3⟩ := hS4.nput 2 rfl (spD [⟨a, b - 1⟩]) rfl hwv hra2 hka hria
     refine st_store_row (v := va) (cs' := ws2.set ws.length va) rfl rfl hra hg3 ?_ ?_ ?_
     ·simp; omega
     ·simp
     repeat' first | refine st_nil ?_ | (refine gw ?_; first | refine st_mv (v := AV.int _ _) rfl ?_ | refine st_add rfl rfl rfl (by omega) (by omega) ?_) | refine sx_ops rfl ?_ | refine sk_norm ?_ | refine bk_norm ?_
     refine lk_next hi2 ⟨_, ws2.set ws.length va, ?_, hh_⟩
     rw [hrn]
     have e1 : (O.map spD ++ [(2, 0, [])]).set ws.length (spD [⟨a, b - 1⟩]) = (O ++ [[(⟨a, b - 1⟩ : Span)]]).map spD := by
      rw [hwl, List.set_append_right _ _ (by simp), List.length_map, Nat.sub_self, List.map_append]
      rfl
     have hS5 : Sep _ [cOld h2, cCell im (.map none (entsFrom AV.str 0 (W ++ [w]))), cNest (AV.own ir gr 1 0 ws2.length none) [] (ws2.set ws.length va) ((O.map spD ++ [(2, 0, [])]).set ws.length (spD [⟨a, b - 1⟩]))] := hS3
     rw [e1] at hS5
     exact hS5
  ·have hii : i = e.length - 1 := by omega
   subst hii
   repeat' first | refine st_nil ?_ | (refine gw ?_; first | (refine gq0 ?_; first | refine st_mv (v := AV.int _ _) rfl ?_ | refine st_mv (v := AV.rd _ _ _) rfl ?_ | refine st_mv rv_ ?_) | (refine gq3 ?_; first | refine st_add rfl rfl rfl (by omega) (by omega) ?_ | (refine st_lss rfl rfl rfl ?_ ?_ <;> (intro hc; try (exfalso; omega)))) | (refine gq6 ?_; first | refine st_len_rd rfl ?_ | refine st_len_row rv_ (by assumption) ?_)) | (refine gx ?_; first | refine sx_seq ?_ | refine sx_ops rfl ?_ | refine sx_block ?_ | refine sx_exit ?_ | refine sx_cond_f rfl ?_) | refine sk_norm ?_ | refine sk_exit ?_ | refine bk_exit ?_ | refine lk_exit ?_
   have hO : termsR S.l = ⟨O.map fun o => ⟨normS o, false⟩, false⟩ := by
    unfold termsR partsT
    rw [hNe, hee, hst, List.map_map]
    rfl
   rw [hO]
   refine sx_for O.length (fun i env h' => ∃ ws, NestAt h' v ((O.take i).map fun o => nvS (normS o)) ws ((O.drop i).map spD) ∧ env.has [(7, v), (85, .int .i64 O.length), (86, .int .i64 i)]) ⟨ws, by simpa using hN, by rw [← hwl]; exact hh_⟩ ?_
   clear hN hrow hSp hm
   rintro i env h' hi ⟨ws, hN, he⟩
   have hlen : ws.length = O.length - i := by simpa using hN.fam.len
   have hpl : ((O.take i).map fun o => nvS (normS o)).length = i := by simp; omega
   obtain ⟨env, rfl⟩ := he.ex
   clear he
   by_cases hi2 : i < O.length
   ·obtain ⟨o, ho⟩ := ex_get hi2
    have hol := hOi o (List.mem_of_getElem? ho)
    obtain ⟨w, ws, rfl⟩ : ∃ w ws', ws = w :: ws' := by
     cases ws with
     | nil => simp at hlen; omega
     | cons w ws' => exact ⟨w, ws', rfl⟩
    have hd : O.drop i = o :: O.drop (i + 1) := by
     rw [List.drop_eq_getElem_cons hi2, (List.getElem?_eq_some_iff.1 ho).2]
    rw [hd, List.map_cons] at hN
    have hin : IsRow h' w 2 o.length (o.flatMap Span.av) := hN.fam.row 0 w (spD o) rfl rfl
    obtain ⟨id, g, hv, hg, hgp⟩ := hN.own (by simp; omega)
    obtain ⟨n1, n2⟩ := hN.next (x := nvS (normS o)) hv hg hgp
    rw [hpl] at hv
    have hsn : ((O.take i).map fun o => nvS (normS o)) ++ [nvS (normS o)] = (O.take (i + 1)).map fun o => nvS (normS o) := by
     rw [take_snoc ho, List.map_append, List.map_singleton]
    generalize hpre : ((O.take i).map fun o => nvS (normS o)) = pre at *
    have hwv : (pre ++ w :: ws)[i]? = some w := by rw [List.getElem?_append_right (by omega), hpl, Nat.sub_self]; rfl
    have kn := norm_ok L1 SL o (by omega) false
    have hntw := hin.notTup
    simp only [List.length_cons] at hv hlen
    subst hv
    repeat' first | refine st_nil ?_ | (refine gw ?_; first | (refine gq0 ?_; first | refine st_mv (v := AV.int _ _) rfl ?_ | refine st_mv (v := AV.own _ _ _ _ _ _) rfl ?_) | refine st_load_raw (g := _) rfl hg_ hwv eq_ (by simp) ?_ | (refine st_lss rfl rfl rfl ?_ ?_ <;> (intro hc; try (exfalso; omega))) | refine st_index_own rfl rfl (by omega) (by omega) ?_ | refine st_call rfl nt_ ?_) | (refine gx ?_; first | refine sx_seq ?_ | refine sx_ops rfl ?_ | refine sx_skip ?_ | refine sx_block ?_ | refine sx_cond_t rfl ?_) | refine sk_norm ?_
    refine call_fz (fun k => w.rowId = some k) rfl kn (.cons (hin.fz _ (fun _ h => h) (FzL.same _)) .nil) (by simp [AV.frozenL, AV.frozen]) (by simp [AV.frozen]) ?_
    clear hin hN hg
    repeat' first | refine st_nil ?_ | (refine gw ?_; first | refine st_mv (v := AV.int _ _) rfl ?_ | refine st_add rfl rfl rfl (by omega) (by omega) ?_ | refine st_index_own rfl rfl (by omega) (by omega) ?_ | refine st_store_p (v := AV.rd _ _ _) rfl rfl hg_ rfl rfl b_ sv_ ?_) | refine sx_ops rfl ?_ | refine sk_norm ?_ | refine bk_norm ?_
    have e9 : (pre ++ w :: ws).set ((i : Int).toNat * 1) (.rd (normS o).length ((normS o).flatMap Span.av) false) = pre ++ [nvS (normS o)] ++ ws := by
     rw [Int.toNat_natCast, Nat.mul_one, List.set_append_right _ _ (by omega), hpl, Nat.sub_self, List.append_assoc]
     rfl
    refine lk_next hi2 ⟨ws, ?_, hh_⟩
    rw [← hsn, e9]
    exact n2
   ·have hii : i = O.length := by omega
    subst hii
    rw [List.take_of_length_le (Nat.le_refl _)] at hN
    have hw0 : ws = [] := List.eq_nil_of_length_eq_zero (by omega)
    subst hw0
    have hrow : IsRow h' v 1 O.length (O.map fun o => nvS (normS o)) := by simpa using hN.out
    repeat' first | refine st_nil ?_ | (refine gw ?_; first | refine st_mv rv_ ?_ | (refine st_lss rfl rfl rfl ?_ ?_ <;> (intro hc; try (exfalso; omega)))) | (refine gx ?_; first | refine sx_seq ?_ | refine sx_ops rfl ?_ | refine sx_ret ?_ | refine sx_exit ?_ | refine sx_cond_f rfl ?_) | refine sk_norm ?_ | refine sk_exit ?_ | refine bk_exit ?_ | refine lk_exit ?_
    refine fin_row rfl hrow (fun _ => ?_)
    simp only [Rw.mv, List.length_map, List.map_map]
    rfl
end Go.Proofs.YtdldfflfbfpngaaGreatDoor
