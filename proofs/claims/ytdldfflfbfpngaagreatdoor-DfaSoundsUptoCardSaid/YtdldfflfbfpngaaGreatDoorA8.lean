/- slices.Sort at numbers, by the kit's contract. Room, and sorting by keys, by the kit's contracts. A map's keys, sorted, by the kit's contracts. -/
import Derived.Test.YtdldfflfbfpngaaGreatDoorA6
import Derived.Test.YtdldfflfbfpngaaGreatDoorA7
import Derived.Shelf.Sort.Plain
import Derived.Shelf.SlSortCmp.WholeK
import Derived.Shelf.Slices.In.SortNone
import Derived.Shelf.SlSortCmp.NoneTotal
import Derived.Shelf.Spec.SlicesGrow
import Derived.Shelf.SlSortCmp.Whole1
import Derived.Shelf.SlIterI.Sorted
import Derived.Shelf.SlIterI.Nil
import Derived.Lib.SlKeysI
import Derived.Maps.Own
import Derived.WideShapes
set_option linter.unusedVariables false
set_option linter.unusedSimpArgs false
namespace Go.Proofs.YtdldfflfbfpngaaGreatDoor
open Go
section
variable {φ : Phi} {P : Program} {X : Ctx}
theorem splice_row {C : Array Value} {base off : Nat} {vs ws : List Value} (h : ∀ (j : Nat) (v : Value), vs[j]? = some v → C[base + j]? = some v) (hb : base + vs.length ≤ C.size) (hl : off + ws.length ≤ vs.length) :
  ∀ (j : Nat) (v : Value), (splice vs off ws)[j]? = some v → (splice C.toList (base + off) ws).toArray[base + j]? = some v := by
 intro j v hj
 have hjl := (List.getElem?_eq_some_iff.1 hj).1
 rw [splice_length hl] at hjl
 have e1 : (C.toList.take (base + off)).length = base + off := by simp; omega
 have e2 : (vs.take off).length = off := by simp; omega
 unfold splice at hj ⊢
 simp only [List.getElem?_toArray]
 by_cases h1 : j < off
 ·rw [List.append_assoc, List.getElem?_append_left (by omega), List.getElem?_take_of_lt h1] at hj
  rw [List.append_assoc, List.getElem?_append_left (by omega), List.getElem?_take_of_lt (by omega)]
  simpa using h j v hj
 ·by_cases h2 : j < off + ws.length
  ·rw [List.append_assoc, List.getElem?_append_right (by omega), e2, List.getElem?_append_left (by omega)] at hj
   rw [List.append_assoc, List.getElem?_append_right (by omega), e1, List.getElem?_append_left (by omega)]
   rw [show base + j - (base + off) = j - off by omega]
   exact hj
  ·rw [List.append_assoc, List.getElem?_append_right (by omega), e2, List.getElem?_append_right (by omega), List.getElem?_drop] at hj
   rw [List.append_assoc, List.getElem?_append_right (by omega), e1, List.getElem?_append_right (by omega), List.getElem?_drop]
   rw [show off + ws.length + (j - off - ws.length) = j by omega] at hj
   rw [show base + off + ws.length + (base + j - (base + off) - ws.length) = base + j by omega]
   simpa using h j v hj
theorem own_turn (hX : HeapOk φ X) {id g e off len : Nat} {lim : Option Nat} {a : Option Addr} {cap : Nat} {cs as' : List AV} {vs' : List Value} (hid : X.h.get id = some (.cells g cs)) (hv : VC φ X (.own id g e off len lim) (.slice a len cap)) (hl : (off + len) * e ≤ cs.length)
  (ha : VCs φ X as' vs') (hlen : as'.length = len * e) :
  ∃ B base C T vs, (0 < cap → a = some ⟨B, base + off * e, none⟩) ∧ len ≤ cap ∧ X.w.heap[B]? = some (.cells C T (0, 0)) ∧ VCs φ X ((cs.drop (off * e)).take (len * e)) vs ∧ vs.length = len * e ∧ (∀ j v, vs[j]? = some v → C[base + off * e + j]? = some v) ∧
   base + off * e + len * e ≤ C.size ∧
   ∀ w' : World, X.w.heap.size ≤ w'.heap.size → w'.os = X.w.os → w'.output = X.w.output → (∀ i, i < X.w.heap.size → i ≠ B → w'.heap[i]? = X.w.heap[i]?) → w'.heap[B]? = some (.cells (splice C.toList (base + off * e) vs').toArray T (0, 0)) →
    ∃ X', X'.w = w' ∧ X'.h = X.h.set id (.cells g (cs.take (off * e) ++ as' ++ cs.drop ((off + len) * e))) ∧ Le X X' ∧ HeapOk φ X' := by
 obtain ⟨a', cap', B, base, C, T, vs, hx, hlc, haa, hC, hlim, k1, k2, k3, k4, k5⟩ := VC.of_own hX hv hid
 injection hx with hx1 _ hx2
 subst hx1 hx2
 obtain ⟨q1, q2, q3⟩ := view_cells k4 k5 hl
 have hl2 := ha.length
 have hl4 := k4.length
 have hke : (off + len) * e = off * e + len * e := Nat.add_mul ..
 refine ⟨B, base, C, T, _, haa, hlc, k2, q1, q2, q3, by omega, fun w' hs hos hout hkept hB => ?_⟩
 have hup := hX.update (id := id) (g' := g) (cs' := cs.take (off * e) ++ as' ++ cs.drop ((off + len) * e)) (B := B) (base := base) (w' := w')
  (C' := (splice C.toList (base + off * e) vs').toArray) (T := T) (vs := splice vs (off * e) vs')
  hs hos hout hkept hB (Nat.lt_of_lt_of_le (hX.ids _ _ hid) hs)
  (.inl ⟨g, cs, base, C, hid, k1, k2, by simp [splice_length (show base + off * e + vs'.length ≤ C.toList.length by simp; omega)], Nat.le_refl _, fun _ => rfl⟩)
  (by
   simp [splice_length (show base + off * e + vs'.length ≤ C.toList.length by simp; omega)]
   omega)
  (by
   unfold splice
   rw [hke, ← hlen, ← ha.length]
   exact ((k4.take _).append ha).append (k4.drop _))
  (by
   intro j v hj
   exact splice_row k5 (by omega) (by omega) j v hj)
 exact ⟨_, rfl, rfl, hup.1, hup.2⟩
open Go.Sort in
theorem putRow_heap {α : Type} [Inhabited α] (enc : α → Value) {w : World} {B n off : Nat} {d : Array α} {os : Array Obj} {C : Array Value} {T : TypeId} (h : w.heap[B]? = some (.cells C T (0, 0))) (hs : off + d.size ≤ C.size) :
  (grow (putRow enc (Sort.ahead w n) B off d) os).heap[B]? = some (.cells (splice C.toList off (d.toList.map enc)).toArray T (0, 0)) ∧
  (∀ i, i < w.heap.size → i ≠ B → (grow (putRow enc (Sort.ahead w n) B off d) os).heap[i]? = w.heap[i]?) ∧
  w.heap.size ≤ (grow (putRow enc (Sort.ahead w n) B off d) os).heap.size := by
 have hlt := (Array.getElem?_eq_some_iff.1 h).1
 have hsz : (putRow enc (Sort.ahead w n) B off d).heap.size = w.heap.size := by
  simp [putRow, mapBlock, Sort.ahead]
 have hat : ∀ i, i < w.heap.size → (grow (putRow enc (Sort.ahead w n) B off d) os).heap[i]? = (putRow enc (Sort.ahead w n) B off d).heap[i]? := fun i hi => by
  simp only [grow]
  rw [Array.getElem?_append_left (by omega)]
 refine ⟨?_, fun i hi hne => ?_, by simp [hsz]⟩
 ·rw [hat _ hlt]
  have : (putRow enc (Sort.ahead w n) B off d).heap[B]? = some (.cells (Sort.putCells enc off d C) T (0, 0)) := by
   simp only [putRow, mapBlock, Sort.ahead, Array.getElem?_modify, h]
   simp [onCells]
  rw [this]
  congr 2
  apply Array.ext_getElem?
  intro k
  simp only [Sort.putCells, Array.getElem?_mapIdx]
  have e1 : (C.toList.take off).length = off := by simp; omega
  simp only [List.getElem?_toArray]
  unfold splice
  by_cases h1 : k < off
  ·rw [List.append_assoc, List.getElem?_append_left (by omega), List.getElem?_take_of_lt h1]
   cases hk : C[k]? with
   | none => simp [hk]
   | some x => simp [hk, show ¬ off ≤ k by omega]
  ·by_cases h2 : k < off + d.size
   ·rw [List.append_assoc, List.getElem?_append_right (by omega), e1, List.getElem?_append_left (by simp; omega)]
    have hk : k < C.size := by omega
    rw [Array.getElem?_eq_getElem hk]
    simp only [Option.map_some, show off ≤ k ∧ k < off + d.size from ⟨by omega, h2⟩, and_self, if_true, List.getElem?_map]
    have hj : k - off < d.size := by omega
    simp [hj]
   ·rw [List.append_assoc, List.getElem?_append_right (by omega), e1, List.getElem?_append_right (by simp; omega), List.getElem?_drop]
    rw [show off + (d.toList.map enc).length + (k - off - (d.toList.map enc).length) = k by simp; omega]
    cases hk : C[k]? with
    | none => simp [hk]
    | some x => simp [hk, show ¬ (off ≤ k ∧ k < off + d.size) by omega]
 ·rw [hat _ hi]
  simp only [putRow, mapBlock, Sort.ahead, Array.getElem?_modify]
  rw [if_neg (Ne.symm hne)]
theorem VCs.ints : ∀ {zs : List Int} {vs : List Value}, VCs φ X (intCells zs) vs → vs = zs.map (.int .i64)
 | [], _, .nil => rfl
 | z :: zs, _, .cons (.int _ _) b => by rw [VCs.ints b]; rfl
theorem VCs.of_ints : ∀ (zs : List Int), VCs φ X (intCells zs) (zs.map (.int .i64))
 | [] => .nil
 | z :: zs => .cons (.int _ _) (VCs.of_ints zs)
open Go.Sort Go.Shelf in
theorem extSortInts_ok {ρ : Ren} (L : Lays.n189 P ρ) {args : List AV} {vals : List Value} {Q : AV → Heap → Prop} (hp : extSortInts.pt args X.h Q) (hX : HeapOk φ X) (hv : VRs φ X args vals) : Calls P (ρ.f 189) vals.toArray X.w (CallOk φ P X Q) := by
 simp only [extSortInts] at hp
 split at hp
 ·rename_i id g e off n lim
  obtain ⟨cs, zs, hid, rfl, hl, hn, hz, hq⟩ := hp
  cases hv with
  | cons h1 h2 =>
   cases h2
   cases h1 with
   | one h1 =>
    have h1' := h1
    cases h1 with
    | own hlt hlc ha hg =>
     rename_i a cap
     have hzl : zs.length = n := by
      have := congrArg List.length hz
      simp [intCells] at this
      omega
     obtain ⟨B, base, C, T, vs, k1, k2, k3, k4, k5, k6, k7, k8⟩ := own_turn hX hid h1' (by simpa using hl) (VCs.of_ints (zs.mergeSort (fun x y => decide (x ≤ y)))) (by simp [intCells, hzl])
     simp only [Nat.mul_one] at k1 k4 k5 k6 k7 k8
     rw [hz] at k4
     obtain rfl := k4.ints
     by_cases hn0 : n = 0
     ·subst hn0
      refine (Any.slices_Sort_int_none L a cap X.w).mono ?_
      rintro e w' ⟨rfl, rfl⟩
      have hz0 : zs = [] := List.eq_nil_of_length_eq_zero hzl
      subst hz0
      refine ⟨.tup [], _, X, rfl, rfl, .refl X, hX, .tup .nil, ?_⟩
      have : X.h.set id (.cells g (cs.take off ++ intCells ([].mergeSort (fun x y => decide (x ≤ y))) ++ cs.drop (off + 0))) = X.h := by
       apply Heap.ext'
       funext i
       simp only [Heap.set]
       split
       ·rename_i hi; rw [hi, hid]; simp [intCells]
       ·rfl
      rw [this] at hq
      exact hq
     ·rw [k1 (by omega)]
      have hH : Holds (Value.int .i64) X.w B (base + off) zs.toArray := fun j hj => by
       have hj' : j < zs.length := by simpa using hj
       have hc := k6 j (.int .i64 zs[j]) (by simp [hj'])
       constructor
       ·simp only [World.cell?, k3]
        simp [hc, hj']
       ·simp [World.frozen?, k3]
      have hcall := Any.slices_Sort_int L B (base + off) cap zs X.w hH (Array.getElem?_eq_some_iff.1 k3).1 (by omega)
      rw [hzl] at hcall
      refine hcall.mono ?_
      rintro e w' ⟨rfl, nd, os, rfl⟩
      obtain ⟨p1, p2, p3⟩ := putRow_heap (Value.int .i64) (n := nd) (os := os) (d := (zs.mergeSort fun x y => decide (x ≤ y)).toArray) k3 (by simp [hzl]; omega)
      obtain ⟨X', e1, e2, e3, e4⟩ := k8 _ p3 rfl rfl p2 (by simpa using p1)
      refine ⟨.tup [], _, X', rfl, e1, e3, e4, .tup .nil, ?_⟩
      rw [e2]
      simpa using hq
 ·rename_i n cs f
  obtain ⟨rfl, rfl, hq⟩ := hp
  cases hv with
  | cons h1 h2 =>
   cases h2
   cases h1 with
   | one h1 =>
    cases h1 with
    | rd hr hc hnc hf =>
     rename_i a cap vs
     refine (Any.slices_Sort_int_none L a cap X.w).mono ?_
     rintro e w' ⟨rfl, rfl⟩
     exact ⟨.tup [], _, X, rfl, rfl, .refl X, hX, .tup .nil, hq⟩
 ·exact hp.elim
def pairEnc (x : Int × Int) : List Value := [.int .i64 x.1, .int .i64 x.2]
def pairVals (l : List (Int × Int)) : List Value := l.flatMap pairEnc
theorem VCs.pairs : ∀ {l : List (Int × Int)} {vs : List Value}, VCs φ X (pairCells l) vs → vs = pairVals l
 | [], _, h => by cases h; rfl
 | x :: l, vs, h => by
  simp only [pairCells, List.flatMap_cons, List.cons_append, List.nil_append] at h
  cases h with
  | cons h1 h2 => cases h2 with
   | cons h2 h3 =>
    cases h1; cases h2
    have := VCs.pairs (l := l) h3
    subst this
    rfl
theorem VCs.of_pairs : ∀ (l : List (Int × Int)), VCs φ X (pairCells l) (pairVals l)
 | [] => .nil
 | x :: l => .cons (.int _ _) (.cons (.int _ _) (VCs.of_pairs l))
open Go.Sort in
theorem flatK_pairs (l : List (Int × Int)) : (flatK pairEnc 2 l.toArray).toList = pairVals l := by
 have hlen : ∀ l : List (Int × Int), (pairVals l).length = l.length * 2 := by
  intro l
  induction l with
  | nil => rfl
  | cons a l ih => simp only [pairVals, List.flatMap_cons, pairEnc, List.length_append, List.length_cons, List.length_nil] at ih ⊢; omega
 have key : ∀ (l : List (Int × Int)) (t : Nat), t < l.length * 2 → (pairVals l)[t]? = some ((pairEnc l.toArray[t / 2]!)[t % 2]!) := by
  intro l
  induction l with
  | nil => intro t h; simp at h
  | cons x l ih =>
   intro t h
   match t with
   | 0 => rfl
   | 1 => rfl
   | t + 2 =>
    have := ih t (by simp at h; omega)
    show (pairVals l)[t]? = _
    rw [this]
    have e1 : (t + 2) / 2 = t / 2 + 1 := by omega
    have e2 : (t + 2) % 2 = t % 2 := by omega
    rw [e1, e2]
    simp
 apply List.ext_getElem?
 intro t
 by_cases ht : t < l.length * 2
 ·rw [key l t ht]
  simp only [flatK, Array.toList_map, Array.toList_range, List.getElem?_map]
  rw [List.getElem?_range (by simpa using ht)]
  rfl
 ·rw [List.getElem?_eq_none (by simp [flatK]; omega), List.getElem?_eq_none (by rw [hlen]; omega)]
open Go.Sort Go.Shelf in
theorem extSortPairs_ok {ρ : Ren} (L : SlLaysF0.n6 P ρ) (aE : ∀ w, (isAgg (ρ.t 24)).run P w = .ok true w) (zE : ∀ w, (Go.sizeOf (ρ.t 24)).run P w = .ok 2 w) {c : Nat} {gf : FuncId} (hc : φ c = some gf) (eg : ∀ args w, (callFunc gf args).run P w = .ok (.enter gf args) w)
  (hcmp : ∀ (x y : Int × Int) (W : World), Calls P gf #[.agg #[.int .i64 x.1, .int .i64 x.2], .agg #[.int .i64 y.1, .int .i64 y.2]] W fun e w' => e = .returned (.int .i64 (Lib.compareInt x.1 y.1)) ∧ ∃ q os', w' = grow (W.drewN q) os')
  {args : List AV} {vals : List Value} {Q : AV → Heap → Prop} (hp : (extSortPairs c).pt args X.h Q) (hX : HeapOk φ X) (hv : VRs φ X args vals) : Calls P (ρ.f 6) vals.toArray X.w (CallOk φ P X Q) := by
 have hlt : ∀ x y : Int × Int, ltOf (fun x y : Int × Int => Lib.compareInt x.1 y.1) x y = decide (x.1 < y.1) := fun x y => by
  unfold ltOf Lib.compareInt
  by_cases h1 : x.1 < y.1
  ·simp [h1]
  ·by_cases h2 : y.1 < x.1 <;> simp [h1, h2]
 have hswo : SWO (ltOf fun x y : Int × Int => Lib.compareInt x.1 y.1) := {
  irrefl := fun x => by rw [hlt]; simp
  trans := fun x y z h1 h2 => by rw [hlt] at *; simp at *; omega
  ntrans := fun x y z h1 h2 => by rw [hlt] at *; simp at *; omega }
 simp only [extSortPairs] at hp
 split at hp
 ·rename_i id g e off n lim c' cap'
  obtain ⟨rfl, rfl, cs, l, hid, rfl, hl, hn, hz, hq⟩ := hp
  cases hv with
  | cons h1 h2 =>
   cases h2 with
   | cons h2 h3 =>
    cases h3
    cases h1 with
    | one h1 =>
     cases h2 with
     | one h2 =>
      cases h2 with
      | fn hf hcap =>
       rename_i fid vcap
       rw [hc] at hf
       injection hf with hf
       subst hf
       cases hcap
       have h1' := h1
       cases h1 with
       | own hlt' hlc ha hg =>
        rename_i a cap
        have hzl : l.length = n := by
         have := congrArg List.length hz
         rw [pairCells_length] at this
         simp at this
         omega
        by_cases hn0 : n = 0
        ·subst hn0
         refine (AnyF.slices_SortFunc_none L a cap _ X.w).mono ?_
         rintro e w' ⟨rfl, rfl⟩
         have hz0 : l = [] := List.eq_nil_of_length_eq_zero hzl
         subst hz0
         have hq := hq [] (.refl _) .nil
         refine ⟨.tup [], _, X, rfl, rfl, .refl X, hX, .tup .nil, ?_⟩
         have : X.h.set id (.cells g (cs.take (off * 2) ++ pairCells [] ++ cs.drop ((off + 0) * 2))) = X.h := by
          apply Heap.ext'
          funext i
          simp only [Heap.set]
          split
          ·rename_i hi; rw [hi, hid]; simp [pairCells]
          ·rfl
         rw [this] at hq
         exact hq
        ·obtain ⟨B, base, C, T, vs, k1, k2, k3, k4, k5, k6, k7, _⟩ := own_turn hX hid h1' hl (VCs.of_pairs l) (by rw [pairCells_length, hzl])
         rw [hz] at k4
         obtain rfl := k4.pairs
         have hBlt := (Array.getElem?_eq_some_iff.1 k3).1
         have ha1 := k1 (by omega)
         have hH : HoldsK pairEnc 2 X.w B (base + off * 2) l.toArray := fun j hj => by
          have hj' : j < l.length * 2 := by simpa using hj
          have hv : (pairVals l)[j]? = some ((flatK pairEnc 2 l.toArray)[j]!) := by
           rw [← flatK_pairs, Array.getElem?_toList, getElem!_pos _ j (by simpa using hj'), Array.getElem?_eq_getElem]
          have hcc := k6 j _ hv
          constructor
          ·simp only [World.cell?, k3]
           simpa using hcc
          ·simp [World.frozen?, k3]
         have hcall := AnyQ.slices_SortFunc L 2 aE zE pairEnc (fun _ => rfl) (fun x v hv => by simp [pairEnc] at hv; rcases hv with rfl | rfl <;> rfl) (fun x y => Lib.compareInt x.1 y.1) hswo gf #[] B (base + off * 2) cap l.toArray X.w eg
          (fun m os dk hdk x y => by simpa [pairEnc] using hcmp x y (sortWorldK pairEnc 2 X.w B (base + off * 2) m dk os)) hH hBlt (by simp; omega)
         simp only [List.size_toArray, hzl] at hcall
         rw [ha1]
         refine hcall.mono ?_
         rintro e w' ⟨rfl, d', nd, os, hperm, hsort, rfl⟩
         obtain ⟨m1, _, m3⟩ := hperm
         simp only [List.size_toArray, hzl] at m1
         have hperm : d'.toList.Perm l := by
          have e1 : (d'.extract 0 n).toList = d'.toList := by rw [Array.toList_extract]; simp [List.extract_eq_take_drop, List.take_of_length_le, m1]
          have e2 : (l.toArray.extract 0 n).toList = l := by rw [Array.toList_extract]; simp [List.extract_eq_take_drop, List.take_of_length_le, hzl]
          rw [e1, e2] at m3
          exact m3
         have hpw : d'.toList.Pairwise (fun a b => a.1 ≤ b.1) := by
          rw [List.pairwise_iff_getElem]
          intro i j hi hj hij
          have := hsort i j (Nat.zero_le _) hij (by simp at hj; omega)
          rw [hlt] at this
          simp at hi hj
          rw [getElem!_pos d' j (by omega), getElem!_pos d' i (by omega)] at this
          simpa using this
         have hdl : d'.toList.length = n := by simpa using m1
         obtain ⟨B', base', C', T', vs', q1, q2, q3, q4, q5, q6, q7, q8⟩ := own_turn hX hid h1' hl (VCs.of_pairs d'.toList) (by rw [pairCells_length, hdl])
         have hq1 := q1 (by omega)
         rw [ha1] at hq1
         injection hq1 with hq1
         injection hq1 with hB hbb _
         subst hB
         have hbb : base = base' := by omega
         subst hbb
         rw [k3] at q3
         injection q3 with q3
         injection q3 with hC hT _
         subst hC hT
         have hfl := flatK_pairs d'.toList
         simp only [Array.toArray_toList] at hfl
         obtain ⟨p1, p2, p3⟩ := putRow_heap (_root_.id : Value → Value) (n := nd) (os := os) (d := flatK pairEnc 2 d') k3 (by rw [size_flatK, m1]; omega)
         rw [hfl, List.map_id] at p1
         have hw1 : (sortWorldK pairEnc 2 X.w B (base + off * 2) nd d' os).os = X.w.os := rfl
         have hw2 : (sortWorldK pairEnc 2 X.w B (base + off * 2) nd d' os).output = X.w.output := rfl
         have hsw : sortWorldK pairEnc 2 X.w B (base + off * 2) nd d' os = grow (putRow _root_.id (Sort.ahead X.w nd) B (base + off * 2) (flatK pairEnc 2 d')) os := rfl
         rw [← hsw] at p1 p2 p3
         generalize sortWorldK pairEnc 2 X.w B (base + off * 2) nd d' os = W at p1 p2 p3 hw1 hw2 ⊢
         obtain ⟨X', e1, e2, e3, e4⟩ := q8 W p3 hw1 hw2 p2 p1
         refine ⟨.tup [], _, X', rfl, e1, e3, e4, .tup .nil, ?_⟩
         rw [e2]
         exact hq _ hperm hpw
 ·rename_i n cs f c' cap'
  obtain ⟨rfl, rfl, rfl, rfl, hq⟩ := hp
  cases hv with
  | cons h1 h2 =>
   cases h2 with
   | cons h2 h3 =>
    cases h3
    cases h1 with
    | one h1 =>
     cases h1 with
     | rd hr hc' hnc hf =>
      rename_i a cap vs
      refine (AnyF.slices_SortFunc_none L a cap _ X.w).mono ?_
      rintro e w' ⟨rfl, rfl⟩
      exact ⟨.tup [], _, X, rfl, rfl, .refl X, hX, .tup .nil, hq⟩
 ·exact hp.elim
end
end Go.Proofs.YtdldfflfbfpngaaGreatDoor
set_option linter.unusedVariables false
set_option linter.unusedSimpArgs false
namespace Go.Proofs.YtdldfflfbfpngaaGreatDoor
open Go
section
variable {φ : Phi} {P : Program} {X : Ctx}
open Go.Shelf in
theorem extGrow_ok {ρ : Ren} (L : Lays8.n4 P ρ) {e : Nat} (he : 0 < e) (i0 : TypeInfo) (z : Value) (hi0 : P.info? (ρ.t 25) = some i0) (hz0 : i0.zero = some z) (hs0 : i0.size = e) (hzs : z.cells.size = e) (hby : i0.bytes ≤ 1024)
  {args : List AV} {vals : List Value} {Q : AV → Heap → Prop} (hp : (extGrow e).pt args X.h Q) (hX : HeapOk φ X) (hv : VRs φ X args vals) : Calls P (ρ.f 4) vals.toArray X.w (CallOk φ P X Q) := by
 simp only [extGrow] at hp
 split at hp
 ·rename_i n
  obtain ⟨h0, h1, hq0, hq1⟩ := hp
  obtain ⟨m, rfl⟩ : ∃ m : Nat, n = m := ⟨n.toNat, by omega⟩
  cases hv with
  | cons v1 v2 =>
   cases v2 with
   | cons v2 v3 =>
    cases v3
    cases v2 with
    | one v2 =>
     cases v2
     cases v1 with
     | one v1 =>
      have v1' := v1
      cases v1 with
      | rd hr hc hnc hf =>
       rename_i a cap vs
       have hcap : cap = 0 := hf rfl
       subst hcap
       by_cases hm : m = 0
       ·subst hm
        refine (Any8.slices_Grow_room L a 0 0 0 X.w (Nat.le_refl _) (by omega) (by omega) (by omega)).mono ?_
        rintro e w' ⟨rfl, rfl⟩
        exact ⟨_, _, X, rfl, rfl, .refl X, hX, .one (.one v1'), hq0 rfl⟩
       ·have hb : m * i0.bytes ≤ 268435456 * 1024 := Nat.mul_le_mul (by omega) hby
        refine (Any8.slices_Grow_grow L i0 z hi0 hz0 (by omega) a 0 0 m [] X.w (Nat.le_refl _) (by omega) (by rw [Nat.zero_add]; omega) (by omega) (by simp) (fun _ => rfl) (fun _ _ j v hj => by simp at hj)).mono ?_
        rintro e' w' ⟨rfl, rfl⟩
        have hge := grownCap_ge X.w (0 + m) 0 (ρ.t 25)
        generalize grownCap X.w (0 + m) 0 (ρ.t 25) = cap' at hge ⊢
        have hC : (([] : List Value).toArray ++ Builtin.zeroCells z.cells (0 + m - 0) ++ Builtin.zeroCells z.cells (cap' - (0 + m))).size = cap' * e := by
         simp only [Array.size_append, List.size_toArray, List.length_nil, zeroCells_size, hzs]
         rw [Nat.zero_add, ← Nat.add_mul, Nat.zero_add, Nat.sub_zero, show m + (cap' - m) = cap' by omega]
        generalize ([] : List Value).toArray ++ Builtin.zeroCells z.cells (0 + m - 0) ++ Builtin.zeroCells z.cells (cap' - (0 + m)) = C at hC ⊢
        have hd : X.w.drew.heap = X.w.heap := rfl
        have hsz : (X.w.drew.alloc (.cells C (ρ.t 25))).heap.size = X.w.heap.size + 1 := by
         show (X.w.drew.alloc (.cells C (ρ.t 25))).heap.size = X.w.drew.heap.size + 1
         simp
        have hup := hX.update (id := X.w.heap.size) (g' := 1) (cs' := []) (B := X.w.heap.size) (base := 0) (w' := X.w.drew.alloc (.cells C (ρ.t 25))) (C' := C) (T := ρ.t 25) (vs := [])
         (by rw [hsz]; omega) rfl rfl (fun i hi _ => by rw [heap_alloc_old _ _ (by rw [hd]; exact hi), hd]) (by have := heap_alloc_new X.w.drew (.cells C (ρ.t 25)); rwa [hd] at this) (by rw [hsz]; omega) (.inr ⟨Nat.le_refl _, .inr ⟨Nat.le_refl _, rfl⟩⟩) (by simp) .nil (fun j v hj => by simp at hj)
        refine ⟨.own X.w.heap.size 1 e 0 0 none, _, _, rfl, rfl, hup.1, hup.2, .one (.one (.own ?_ (Nat.zero_le _) (fun _ => ⟨_, rfl⟩) ?_)), hq1 (by omega) _ hX.fresh⟩
        ·show X.w.heap.size < (X.w.drew.alloc (.cells C (ρ.t 25))).heap.size
         rw [hsz]; omega
        ·intro g' cs hg
         have hg2 : DObj.cells 1 [] = DObj.cells g' cs := by simpa [Heap.set] using hg
         injection hg2 with hg1 hg2
         subst hg1
         refine ⟨Nat.le_refl _, fun _ => ⟨X.w.heap.size, 0, C, ρ.t 25, by simp, ?_, fun _ => by simp [hd], by rw [hC, Nat.zero_add, Nat.zero_add]; exact Nat.le_refl _, by show 0 + (0 + cap') * e = C.size; rw [hC, Nat.zero_add, Nat.zero_add]⟩⟩
         have := heap_alloc_new X.w.drew (.cells C (ρ.t 25))
         rwa [hd] at this
 ·exact hp.elim
end
end Go.Proofs.YtdldfflfbfpngaaGreatDoor
set_option linter.unusedVariables false
set_option linter.unusedSimpArgs false
namespace Go.Proofs.YtdldfflfbfpngaaGreatDoor
open Go
section
variable {φ : Phi} {P : Program} {X : Ctx}
def rdAny (v : Value) : Option (DataW Unit × List MemPlace) := some (.nil, [])
theorem ents_keys {k : TypeId} (hk : P.underlying k = some (.int .i64)) : ∀ {es : List (AV × AV)} {fs : List MapEntry}, Ents φ X (some .i64) es fs → (∀ p ∈ es, ∃ x : Int, p.1 = .int .i64 x ∧ -9223372036854775808 ≤ x ∧ x ≤ 9223372036854775807) →
  (∀ e ∈ fs, ∃ y, WideElems.rd P k rdAny e = some y) ∧ (fs.map (WideElems.rg P k rdAny)).map (fun p => Go.intOf p.1) = keyInts es
 | _, _, .nil, _ => ⟨by simp, rfl⟩
 | _, _, .cons (k := kv) (e := e) h1 h2 h3 h4, hp => by
  obtain ⟨i1, i2⟩ := ents_keys hk h4 fun p hq => hp p (by simp [hq])
  obtain ⟨x, hx, b1, b2⟩ := hp _ List.mem_cons_self
  simp only at hx
  subst hx
  obtain ⟨key, val, born⟩ := e
  simp only at h1
  cases h1
  have hkey : keyOf P k (.int .i64 x) = some (.int .i64 x) := by
   simp [keyOf, hk, mapKey, Lit.wf, IntKind.min, IntKind.max, IntKind.bits, IntKind.signed]
   omega
  have hrd : WideElems.rd P k rdAny ⟨.int .i64 x, val, born⟩ = some (.int .i64 x, .nil) := WideElems.rd_mk (R := rdAny) (yv := (.nil, [])) (born := born) (val := val) hkey rfl
  refine ⟨fun e he => ?_, ?_⟩
  ·rcases List.mem_cons.1 he with rfl | he
   ·exact ⟨_, hrd⟩
   ·exact i1 e he
  ·rw [List.map_cons, List.map_cons, i2, WideElems.rg_of hrd]
   rfl
open Go.Sort Go.Shelf Go.Maps in
theorem extSortedKeys_ok {ρ ρ' : Ren} (LS : SlLaysZI.n6 P ρ) (LK : SlLaysZI.n10 P ρ') (hsorts : ∀ m, AnyZI.SortsIn P ρ Fence.wide m) (e9 : ∀ args w, (callFunc (ρ.f 9) args).run P w = .ok (.enter (ρ.f 9) args) w) (eg : ∀ args w, (callFunc (ρ'.f 10) args).run P w = .ok (.enter (ρ'.f 10) args) w)
  (hkt : P.underlying (ρ'.t 26) = some (.int .i64)) {c : Nat} (hc : φ c = some (ρ'.f 10)) {args : List AV} {vals : List Value} {Q : AV → Heap → Prop} (hp : (extSortedKeys c).pt args X.h Q) (hX : HeapOk φ X) (hv : VRs φ X args vals) : Calls P (ρ.f 6) vals.toArray X.w (CallOk φ P X Q) := by
 simp only [extSortedKeys] at hp
 split at hp
 ·rename_i c' io gi oi
  obtain ⟨rfl, rfl, rfl, id, rest, es, ho, hm, hes, hlen, hq0, hq1⟩ := hp
  cases hv with
  | cons h1 h2 =>
   cases h2
   cases h1 with
   | one h1 =>
    cases h1 with
    | fn hf hcap =>
     rename_i fid vcap
     rw [hc] at hf
     injection hf with hf
     subst hf
     cases hcap with
     | cons hc1 hc2 =>
      rename_i vp vps
      cases hc2
      cases hc1 with
      | ptr hlt hg =>
       rename_i a
       obtain ⟨_, q⟩ := hg 0 _ ho
       obtain ⟨B1, base1, hk1, rfl⟩ := q rfl
       obtain ⟨B0, hz⟩ := hX.zero _ _ ho
       rw [hk1] at hz
       injection hz with hz
       injection hz with hz1 hz2
       subst hz1 hz2
       obtain ⟨B', b', C, T, vs, e1, e2, e3, e4, e5⟩ := hX.cells io 0 _ ho
       rw [hk1] at e1
       injection e1 with e1
       injection e1 with eB eb
       subst eB eb
       obtain ⟨Bm, ents, clock, m1, m2, m3⟩ := hX.maps _ _ _ hm
       cases e4 with
       | cons v1 v2 =>
        rename_i v0 vs0
        cases v1 with
        | map hidm hgm =>
         rename_i r
         have hkm := hgm _ _ hm
         rw [m1] at hkm
         injection hkm with hkm
         injection hkm with hkm _
         subst hkm
         have hcell : X.w.cell? ⟨B1, 0, none⟩ = some (.map (some Bm)) := by
          simp only [World.cell?, e2]
          have := e5 0 _ rfl
          simpa using this
         have hB1 : B1 < X.w.heap.size := (Array.getElem?_eq_some_iff.1 e2).1
         obtain ⟨k1, k2⟩ := ents_keys (k := ρ'.t 26) hkt m3.e hes
         have hle : es.length = ents.toList.length := by
          have := congrArg List.length k2
          simpa [keyInts] using this.symm
         have hsz : ents.size = es.length := by simpa using hle.symm
         have hmx : (268435456 : Nat) ≤ maxLen := by decide
         have hown : X.w.ownsMap P (ρ'.t 26) rdAny Bm ents.size (.map ((ents.toList.map (WideElems.rg P (ρ'.t 26) rdAny)).foldr DataW.insert [])) :=
          ⟨ents, clock, m2, ⟨by omega, m3.s, k1⟩, Nat.le_refl _, rfl⟩
         generalize hD : (DataW.map ((ents.toList.map (WideElems.rg P (ρ'.t 26) rdAny)).foldr DataW.insert []) : DataW Unit) = D0 at hown
         have hperm : (intKeys D0).Perm (keyInts es) := by
          rw [← hD, ← k2]
          exact (WideShapes.sorted_perm _).map _
         have hsize : Maps.size D0 = es.length := by
          rw [← hD]
          show ((ents.toList.map (WideElems.rg P (ρ'.t 26) rdAny)).foldr DataW.insert []).length = es.length
          rw [(WideShapes.sorted_perm _).length_eq, List.length_map, hle]
         have hseq := AnyZI.keys_gives LK Fence.wide 2 trivial rfl (by omega) B1 Bm ents.size D0 X.w hB1 hcell hown
         have hcall := callsIn_wide.1 (AnyZI.sorted_in LS Fence.wide 5 trivial trivial trivial trivial rfl (by omega) (hsorts 4) e9 (ρ'.f 10) #[.pointer (some ⟨B1, 0, none⟩)] trivial eg _ (Maps.size D0) (by omega) (by omega) X.w hseq)
         refine hcall.mono ?_
         rintro e w' ⟨v, ss, rfl, hS, hrow, hnil, hbl⟩
         have hss : ss.Perm (keyInts es) := hS.trans hperm
         have hsl : ss.length = es.length := by
          rw [hss.length_eq]; simp [keyInts]
         have hsort : ss.mergeSort (fun x y => decide (x ≤ y)) = (keyInts es).mergeSort (fun x y => decide (x ≤ y)) := mergeSort_of_perm_i hss
         rw [hsort] at hrow
         obtain ⟨hr1, ⟨rfl, hn0⟩ | ⟨g, cap, cur, rfl, g1, g2, g3, g4, g5, g6⟩⟩ := hrow
         ·have hes0 : es = [] := List.eq_nil_of_length_eq_zero (by omega)
          have hup := hX.grow (w' := w') hbl.size (fun B hB => hbl.block B hB) hbl.os hbl.output
          exact ⟨.rd 0 [] true, _, _, rfl, rfl, hup.1, hup.2, .one (.one (.rd (vs := []) (fun h => by simp at h) .nil (Nat.le_refl _) (fun _ => rfl))), hq0 hes0⟩
         ·have hes0 : es ≠ [] := by
           rintro rfl
           have hss0 : ss = [] := List.eq_nil_of_length_eq_zero hsl
           have := hnil.2 hss0
           cases this
          have hgl : g < w'.heap.size := (Array.getElem?_eq_some_iff.1 g2).1
          have hsl2 : ((keyInts es).mergeSort (fun x y => decide (x ≤ y))).length = es.length := by simp [keyInts]
          rw [Nat.mul_one] at g5 g6
          have hup := hX.update (id := X.w.heap.size) (g' := 1) (cs' := intCells ((keyInts es).mergeSort (fun x y => decide (x ≤ y)))) (B := g) (base := 0) (w' := w') (C' := cur) (T := ρ.t 26) (vs := ((keyInts es).mergeSort (fun x y => decide (x ≤ y))).map (.int .i64))
           hbl.size hbl.os hbl.output (fun i hi _ => hbl.block i hi) g2 (by omega) (.inr ⟨g1, .inr ⟨Nat.le_refl _, rfl⟩⟩) (by rw [intCells, List.length_map, hsl2]; omega) (VCs.of_ints _) (fun j v hj => by
            have hjl := (List.getElem?_eq_some_iff.1 hj).1
            rw [List.length_map, hsl2] at hjl
            have h3 : (cur.toList.take ss.length)[j]? = some v := by rw [g6]; exact hj
            rw [List.getElem?_take_of_lt (by omega)] at h3
            rw [Nat.zero_add]
            simpa using h3)
          rw [hsl] at g3 ⊢
          refine ⟨.own X.w.heap.size 1 1 0 es.length none, _, _, rfl, rfl, hup.1, hup.2, .one (.one (.own ?_ g3 (fun _ => ⟨_, rfl⟩) ?_)), hq1 hes0 _ hX.fresh⟩
          ·show X.w.heap.size < w'.heap.size
           omega
          ·intro g' cs hgc
           have hg2 : DObj.cells 1 (intCells ((keyInts es).mergeSort (fun x y => decide (x ≤ y)))) = DObj.cells g' cs := by simpa [Heap.set] using hgc
           injection hg2 with hg1' hg2'
           subst hg1'
           exact ⟨Nat.le_refl _, fun _ => ⟨g, 0, cur, ρ.t 26, by simp, g2, fun _ => by simp, by omega, by show 0 + (0 + cap) * 1 = cur.size; omega⟩⟩
 ·exact hp.elim
end
end Go.Proofs.YtdldfflfbfpngaaGreatDoor
