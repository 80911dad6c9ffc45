/- Which states are live. What of the heap is whose: chunks that have nothing in common. Without empty parts; without what is dead. -/
import Derived.Test.YtdldfflfbfpngaaGreatDoorE3
import Derived.Test.YtdldfflfbfpngaaGreatDoorP2
import Derived.Test.YtdldfflfbfpngaaGreatDoorB2
import Derived.Test.YtdldfflfbfpngaaGreatDoorE2
set_option linter.unusedVariables false
set_option linter.unusedSimpArgs false
namespace Go.Proofs.YtdldfflfbfpngaaGreatDoor
open Go
set_option maxHeartbeats 4000000
theorem st_store_lit {F : FnSem} {r : List DOper} {Q : Env → Heap → Prop} {env : Env} {h : Heap} {x y : DOpd} {id g o : Nat} {cs cs' : List AV} {v : AV} (hx : ev env x = .ptr id g o) (hv : ev env y = v) (hval : v.isVal = true) (hc1 : v.cells = [v]) (hg : h.get id = some (.cells g cs)) (hb : o + 1 ≤ cs.length) (hc : cs.set o v = cs') (k : wops F r Q env (h.set id (.cells g cs'))) : wops F (⟨none, .store 1 x y, none⟩ :: r) Q env h :=
 st_store_p hx hv hg hval (by rw [hc1]; rfl) hb (by rw [hc1]; exact hc) k
attribute [local irreducible] wops xcode wcode seqK blockK loopK finK wcall wop wstp Runs
end Go.Proofs.YtdldfflfbfpngaaGreatDoor
set_option linter.unusedVariables false
set_option linter.unusedSimpArgs false
namespace Go.Proofs.YtdldfflfbfpngaaGreatDoor
open Go
theorem hq_ {P : Prop} (h : P := by first | assumption | fail) : P := h
theorem iq_ {P : Prop} (h : P := by first | assumption | exact IsRow.nil _ _ | fail) : P := h
theorem rx_ {P : Prop} (h : P := by first | (simp only [ev_tmp, ev_const, Env.puts, Env.put_apply, reduceIte, Nat.reduceEqDiff]; exact rfl) | exact rfl) : P := h
section
variable {F : FnSem} {r : List DOper} {Q : Env → Heap → Prop} {env : Env} {h : Heap} {d : Option Nat} {x y : DOpd} {v : AV}
theorem st_load_c {b n ag} (hx : ev env x = v) (k : wops F (⟨d, .load b n ag (.const v), none⟩ :: r) Q env h) : wops F (⟨d, .load b n ag x, none⟩ :: r) Q env h := by
 subst hx
 simpa only [wops_go, wop_load, readVal, ev_const] using k
theorem st_bin_c1 {o} (hx : ev env x = v) (k : wops F (⟨d, .bin o (.const v) y, none⟩ :: r) Q env h) : wops F (⟨d, .bin o x y, none⟩ :: r) Q env h := by
 subst hx
 simpa only [wops_go, wop_bin, ev_const] using k
theorem st_bin_c2 {o} (hx : ev env y = v) (k : wops F (⟨d, .bin o x (.const v), none⟩ :: r) Q env h) : wops F (⟨d, .bin o x y, none⟩ :: r) Q env h := by
 subst hx
 simpa only [wops_go, wop_bin, ev_const] using k
theorem st_index_c1 {e} (hx : ev env x = v) (k : wops F (⟨d, .indexAddr e (.const v) y, none⟩ :: r) Q env h) : wops F (⟨d, .indexAddr e x y, none⟩ :: r) Q env h := by
 subst hx
 simpa only [wops_go, wop_indexAddr, pureVal, ev_const] using k
theorem st_index_c2 {e} (hx : ev env y = v) (k : wops F (⟨d, .indexAddr e x (.const v), none⟩ :: r) Q env h) : wops F (⟨d, .indexAddr e x y, none⟩ :: r) Q env h := by
 subst hx
 simpa only [wops_go, wop_indexAddr, pureVal, ev_const] using k
theorem st_store_c1 {n} (hx : ev env x = v) (k : wops F (⟨d, .store n (.const v) y, none⟩ :: r) Q env h) : wops F (⟨d, .store n x y, none⟩ :: r) Q env h := by
 subst hx
 simp only [wops_go, wop_store] at k ⊢
 exact k
theorem st_store_c2 {n} (hx : ev env y = v) (k : wops F (⟨d, .store n x (.const v), none⟩ :: r) Q env h) : wops F (⟨d, .store n x y, none⟩ :: r) Q env h := by
 subst hx
 simp only [wops_go, wop_store] at k ⊢
 exact k
theorem st_len_c {n} (hx : ev env x = v) (k : wops F (⟨d, .len n (.const v), none⟩ :: r) Q env h) : wops F (⟨d, .len n x, none⟩ :: r) Q env h := by
 subst hx
 simpa only [wops_go, wop_len, readVal, ev_const] using k
theorem st_append_c1 {n} (hx : ev env x = v) (k : wops F (⟨d, .append n (.const v) y, none⟩ :: r) Q env h) : wops F (⟨d, .append n x y, none⟩ :: r) Q env h := by
 subst hx
 simp only [wops_go, wop_append] at k ⊢
 exact k
theorem st_append_c2 {n} (hx : ev env y = v) (k : wops F (⟨d, .append n x (.const v), none⟩ :: r) Q env h) : wops F (⟨d, .append n x y, none⟩ :: r) Q env h := by
 subst hx
 simp only [wops_go, wop_append] at k ⊢
 exact k
theorem st_field_c {n} (hx : ev env x = v) (k : wops F (⟨d, .fieldAddr n (.const v), none⟩ :: r) Q env h) : wops F (⟨d, .fieldAddr n x, none⟩ :: r) Q env h := by
 subst hx
 simpa only [wops_go, wop_fieldAddr, pureVal, ev_const] using k
end
section
variable {F : FnSem} {r : List DOper} {Q : Env → Heap → Prop} {env : Env} {h : Heap} {d : Option Nat} {x y : DOpd} {v : AV} {t : Nat}
theorem st_load_t {b n ag} (hx : ev env (.tmp t) = v) (k : wops F (⟨d, .load b n ag (.const v), none⟩ :: r) Q env h) : wops F (⟨d, .load b n ag (.tmp t), none⟩ :: r) Q env h := st_load_c hx k
theorem st_bin_t1 {o} (hx : ev env (.tmp t) = v) (k : wops F (⟨d, .bin o (.const v) y, none⟩ :: r) Q env h) : wops F (⟨d, .bin o (.tmp t) y, none⟩ :: r) Q env h := st_bin_c1 hx k
theorem st_bin_t2 {o} (hx : ev env (.tmp t) = v) (k : wops F (⟨d, .bin o x (.const v), none⟩ :: r) Q env h) : wops F (⟨d, .bin o x (.tmp t), none⟩ :: r) Q env h := st_bin_c2 hx k
theorem st_index_t1 {e} (hx : ev env (.tmp t) = v) (k : wops F (⟨d, .indexAddr e (.const v) y, none⟩ :: r) Q env h) : wops F (⟨d, .indexAddr e (.tmp t) y, none⟩ :: r) Q env h := st_index_c1 hx k
theorem st_index_t2 {e} (hx : ev env (.tmp t) = v) (k : wops F (⟨d, .indexAddr e x (.const v), none⟩ :: r) Q env h) : wops F (⟨d, .indexAddr e x (.tmp t), none⟩ :: r) Q env h := st_index_c2 hx k
theorem st_store_t1 {n} (hx : ev env (.tmp t) = v) (k : wops F (⟨d, .store n (.const v) y, none⟩ :: r) Q env h) : wops F (⟨d, .store n (.tmp t) y, none⟩ :: r) Q env h := st_store_c1 hx k
theorem st_store_t2 {n} (hx : ev env (.tmp t) = v) (k : wops F (⟨d, .store n x (.const v), none⟩ :: r) Q env h) : wops F (⟨d, .store n x (.tmp t), none⟩ :: r) Q env h := st_store_c2 hx k
theorem st_len_t {n} (hx : ev env (.tmp t) = v) (k : wops F (⟨d, .len n (.const v), none⟩ :: r) Q env h) : wops F (⟨d, .len n (.tmp t), none⟩ :: r) Q env h := st_len_c hx k
theorem st_append_t1 {n} (hx : ev env (.tmp t) = v) (k : wops F (⟨d, .append n (.const v) y, none⟩ :: r) Q env h) : wops F (⟨d, .append n (.tmp t) y, none⟩ :: r) Q env h := st_append_c1 hx k
theorem st_append_t2 {n} (hx : ev env (.tmp t) = v) (k : wops F (⟨d, .append n x (.const v), none⟩ :: r) Q env h) : wops F (⟨d, .append n x (.tmp t), none⟩ :: r) Q env h := st_append_c2 hx k
theorem st_field_t {n} (hx : ev env (.tmp t) = v) (k : wops F (⟨d, .fieldAddr n (.const v), none⟩ :: r) Q env h) : wops F (⟨d, .fieldAddr n (.tmp t), none⟩ :: r) Q env h := st_field_c hx k
end
structure Chunk where
 foot : Nat → Prop
 holds : Heap → Prop
 keep : ∀ {h h' : Heap}, holds h → (∀ k, foot k → h'.get k = h.get k) → holds h'
 there : ∀ {h : Heap}, holds h → ∀ k, foot k → h.get k ≠ none
@[reducible] def cCell (id : Nat) (o : DObj) : Chunk :=
 ⟨fun k => k = id, fun h => h.get id = some o, fun h1 h2 => (h2 _ rfl).trans h1, fun h1 k hk => by subst hk; rw [h1]; simp⟩
@[reducible] def cRow (v : AV) (e n : Nat) (cs : List AV) : Chunk :=
 ⟨fun k => v.rowId = some k, fun h => IsRow h v e n cs, fun h1 h2 => h1.keep fun k hk => h2 k hk, fun h1 k hk => h1.there hk⟩
@[reducible] def cOld (h0 : Heap) : Chunk :=
 ⟨fun k => h0.get k ≠ none, fun h => ∀ k, h0.get k ≠ none → h.get k = h0.get k, fun h1 h2 k hk => (h2 k hk).trans (h1 k hk), fun h1 k hk => by rw [h1 k hk]; exact hk⟩
structure Sep (h : Heap) (cs : List Chunk) : Prop where
 all : ∀ c ∈ cs, c.holds h
 apart : cs.Pairwise fun c d => ∀ k, c.foot k → ¬ d.foot k
theorem Sep.get {h : Heap} {cs : List Chunk} (hS : Sep h cs) {i : Nat} {c : Chunk} (hc : cs[i]? = some c) : c.holds h := hS.all c (List.mem_of_getElem? hc)
theorem Sep.disj {h : Heap} {cs : List Chunk} (hS : Sep h cs) {i j : Nat} {c d : Chunk} (hc : cs[i]? = some c) (hd : cs[j]? = some d) (hij : i ≠ j) (k : Nat) (h1 : c.foot k) (h2 : d.foot k) : False := by
 obtain ⟨hi, rfl⟩ := List.getElem?_eq_some_iff.1 hc
 obtain ⟨hj, rfl⟩ := List.getElem?_eq_some_iff.1 hd
 have hp := List.pairwise_iff_getElem.1 hS.apart
 rcases Nat.lt_or_gt_of_ne hij with h3 | h3
 ·exact hp i j hi hj h3 k h1 h2
 ·exact hp j i hj hi h3 k h2 h1
theorem Sep.old (h : Heap) : Sep h [cOld h] := ⟨fun c hc => by simp at hc; subst hc; exact fun k _ => rfl, List.pairwise_singleton _ _⟩
theorem Sep.upd {h h' : Heap} {cs : List Chunk} (hS : Sep h cs) (i : Nat) {c : Chunk} (c' : Chunk) (hc : cs[i]? = some c) (hc' : c'.holds h') (ho : ∀ k, h.get k ≠ none → ¬ c.foot k → h'.get k = h.get k) (hf : ∀ k, c'.foot k → c.foot k ∨ h.get k = none) : Sep h' (cs.set i c') := by
 obtain ⟨hi, rfl⟩ := List.getElem?_eq_some_iff.1 hc
 have hp := List.pairwise_iff_getElem.1 hS.apart
 have keep : ∀ j (hj : j < cs.length), j ≠ i → cs[j].holds h' := fun j hj hne => by
  refine (cs[j]).keep (hS.all _ (List.getElem_mem hj)) fun k hk => ho k ((cs[j]).there (hS.all _ (List.getElem_mem hj)) k hk) fun hk2 => ?_
  exact hS.disj (List.getElem?_eq_getElem hj) hc hne k hk hk2
 constructor
 ·intro d hd
  obtain ⟨j, hj, rfl⟩ := List.getElem_of_mem hd
  rw [List.length_set] at hj
  rw [List.getElem_set]
  split
  ·exact hc'
  ·rename_i hne
   exact keep j hj (Ne.symm hne)
 ·rw [List.pairwise_iff_getElem]
  intro a b ha hb hab k hka hkb
  rw [List.length_set] at ha hb
  rw [List.getElem_set] at hka hkb
  split at hka
  ·rename_i e
   subst e
   rw [if_neg (by omega)] at hkb
   rcases hf k hka with h1 | h1
   ·exact hp _ b ha hb hab k h1 hkb
   ·exact (cs[b]).there (hS.all _ (List.getElem_mem hb)) k hkb h1
  ·split at hkb
   ·rename_i _ e
    subst e
    rcases hf k hkb with h1 | h1
    ·exact hp a _ ha hb hab k hka h1
    ·exact (cs[a]).there (hS.all _ (List.getElem_mem ha)) k hka h1
   ·exact hp a b ha hb hab k hka hkb
theorem Sep.put {h : Heap} {cs : List Chunk} (hS : Sep h cs) (i : Nat) {id : Nat} {o : DObj} (o' : DObj) (hc : cs[i]? = some (cCell id o)) : Sep (h.set id o') (cs.set i (cCell id o')) :=
 hS.upd i _ hc (Heap.get_set_self _ _ _) (fun k _ hk => Heap.get_set_ne _ _ hk) (fun k hk => .inl hk)
theorem Sep.add {h h' : Heap} {cs : List Chunk} (hS : Sep h cs) (c : Chunk) (hc : c.holds h') (ho : ∀ k, h.get k ≠ none → h'.get k = h.get k) (hf : ∀ k, c.foot k → h.get k = none) : Sep h' (cs ++ [c]) := by
 constructor
 ·intro d hd
  rcases List.mem_append.1 hd with hd | hd
  ·exact d.keep (hS.all d hd) fun k hk => ho k (d.there (hS.all d hd) k hk)
  ·simp at hd; subst hd; exact hc
 ·rw [List.pairwise_append]
  refine ⟨hS.apart, List.pairwise_singleton _ _, fun a ha b hb k hka hkb => ?_⟩
  simp at hb; subst hb
  exact a.there (hS.all a ha) k hka (hf k hkb)
theorem Sep.new {h : Heap} {cs : List Chunk} (hS : Sep h cs) {id : Nat} {o : DObj} (hid : h.get id = none) : Sep (h.set id o) (cs ++ [cCell id o]) :=
 hS.add _ (Heap.get_set_self _ _ _) (fun k hk => Heap.get_set_ne _ _ (fun e => hk (e ▸ hid))) (fun k hk => by rw [hk]; exact hid)
theorem Sep.drop {h h' : Heap} {cs : List Chunk} (hS : Sep h cs) (i : Nat) {c : Chunk} (hc : cs[i]? = some c) (ho : ∀ k, ¬ c.foot k → h'.get k = h.get k) : Sep h' (cs.eraseIdx i) := by
 obtain ⟨hi, rfl⟩ := List.getElem?_eq_some_iff.1 hc
 refine ⟨fun d hd => ?_, hS.apart.sublist (List.eraseIdx_sublist _ _)⟩
 obtain ⟨j, hj, hje⟩ := List.mem_eraseIdx_iff_getElem.1 hd
 obtain ⟨hj1, rfl⟩ := hje
 refine (cs[j]).keep (hS.all _ (List.getElem_mem hj)) fun k hk => ho k fun hk2 => ?_
 exact hS.disj (List.getElem?_eq_getElem hj) hc hj1 k hk hk2
theorem Sep.ext {h h' : Heap} {cs : List Chunk} (hS : Sep h cs) (ho : ∀ k, h.get k ≠ none → h'.get k = h.get k) : Sep h' cs :=
 ⟨fun d hd => d.keep (hS.all d hd) fun k hk => ho k (d.there (hS.all d hd) k hk), hS.apart⟩
theorem Sep.rowset {h : Heap} {cs : List Chunk} (hS : Sep h cs) (i : Nat) {v : AV} {e n id g : Nat} {rs : List AV} (rs' : List AV) (hc : cs[i]? = some (cRow v e n rs)) (hv : v = .own id g e 0 n none) (hg : 1 ≤ g) (hl : rs'.length = n * e) : Sep (h.set id (.cells g rs')) (cs.set i (cRow v e n rs')) := by
 refine hS.upd i _ hc (.inr ⟨id, g, hv, Heap.get_set_self _ _ _, hg, hl⟩) (fun k _ hk => Heap.get_set_ne _ _ fun e => hk ?_) (fun k hk => .inl hk)
 subst hv e
 rfl
theorem Sep.weak {h : Heap} {cs ds : List Chunk} (hS : Sep h cs) (hs : ds.Sublist cs) : Sep h ds := ⟨fun d hd => hS.all d (hs.mem hd), hS.apart.sublist hs⟩
theorem Sep.nil {h : Heap} {cs : List Chunk} (hS : Sep h cs) (e : Nat) : Sep h (cs ++ [cRow (.rd 0 [] true) e 0 []]) := hS.add _ (IsRow.nil _ _) (fun _ _ => rfl) (fun k hk => by cases hk)
end Go.Proofs.YtdldfflfbfpngaaGreatDoor
set_option linter.unusedVariables false
set_option linter.unusedSimpArgs false
namespace Go.Proofs.YtdldfflfbfpngaaGreatDoor
open Go
set_option maxHeartbeats 4000000
theorem res_cell {env : Env} {h : Heap} {t id g n : Nat} {cs : List AV} (ht : env t = .ptr id g 0) (hg : h.get id = some (.cells g cs)) (hl : cs.length = n) : resVals env h [.cell t n true] = some (.agg cs) := by
 subst hl
 simp only [resVals, resVal, ht, hg]
 rw [if_pos ⟨trivial, by omega⟩]
 simp
attribute [local irreducible] wops xcode wcode seqK blockK loopK finK wcall wop wstp Runs
end Go.Proofs.YtdldfflfbfpngaaGreatDoor
