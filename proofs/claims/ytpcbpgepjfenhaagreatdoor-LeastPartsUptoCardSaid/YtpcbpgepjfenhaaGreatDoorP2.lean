/- Least machines, plainly: empty parts, dead states; what the least machine tells. Least machines, plainly: by any names the same; twice the same. How many a set has; sets that have nothing in common. Which states are live: the plain law of the search. -/
import Derived.Test.YtpcbpgepjfenhaaGreatDoorP1
set_option linter.unusedVariables false
set_option linter.unusedSimpArgs false
namespace Go.Proofs.YtpcbpgepjfenhaaGreatDoor
open Go
def bareK (d : PD) : List Nat := (List.range d.p).filter fun k => !(d.part k).isEmpty
def bareP (d : PD) : PD := ⟨(bareK d).map d.part, d.next.map fun r => (bareK d).map fun k => r.getD k (-1), d.tags⟩
def pruneX (lv : Int → Bool) (x : Int) : Int := if x ≠ -1 ∧ lv x = false then -1 else x
def pruneP (lv : Int → Bool) (d : PD) : PD := ⟨d.parts, d.next.map fun r => r.map (pruneX lv), d.tags⟩
inductive LiveS (n : Nat) (R : Int → List Int) (T : Int → Int) : Int → Prop
 | tag {s} : In n s → 0 ≤ T s → LiveS n R T s
 | step {s x} : In n s → x ∈ R s → In n x → LiveS n R T x → LiveS n R T s
structure IsLeast (d x : PD) : Prop where
 ex : ∃ (lv : Int → Bool) (κ : Int → Int), (∀ s, In d.n s → (lv s = true ↔ LiveS d.n (bareP d).row d.tag s)) ∧ Kinds d.n (pruneP lv (bareP d)).row d.tag κ ∧ x = finalP κ (pruneP lv (bareP d))
theorem bare_p (d : PD) : (bareP d).p = (bareK d).length := by simp [bareP, PD.p]
theorem bareK_mem {d : PD} {k : Nat} : k ∈ bareK d ↔ k < d.p ∧ d.part k ≠ [] := by
 simp [bareK, List.mem_filter]
theorem bare_part {d : PD} {j : Nat} (hj : j < (bareK d).length) : (bareP d).part j = d.part ((bareK d).getD j 0) := getD_map' _ _ _ 0 _ hj
theorem bare_row {d : PD} (h : d.Ok) {s : Int} (hs : In d.n s) : (bareP d).row s = (bareK d).map (col d.row s) := by
 have h1 : s.toNat < d.next.length := by rw [h.nl]; unfold In at hs; omega
 exact getD_map' _ _ _ [] _ h1
theorem prune_row {lv : Int → Bool} {d : PD} (s : Int) : (pruneP lv d).row s = (d.row s).map (pruneX lv) := by
 unfold PD.row pruneP
 by_cases h : s.toNat < d.next.length
 ·exact getD_map' _ _ _ [] _ h
 ·rw [getD_out (by simpa using h), getD_out h]; rfl
theorem prune_col {lv : Int → Bool} {d : PD} (s : Int) (k : Nat) : col (pruneP lv d).row s k = pruneX lv (col d.row s k) := by
 unfold col
 rw [prune_row]
 by_cases h : k < (d.row s).length
 ·exact getD_map' _ _ _ (-1) _ h
 ·rw [getD_out (by simpa using h), getD_out h]; simp [pruneX]
theorem bare_col {d : PD} (h : d.Ok) {s : Int} (hs : In d.n s) {j : Nat} (hj : j < (bareK d).length) : col (bareP d).row s j = col d.row s ((bareK d).getD j 0) := by
 show ((bareP d).row s).getD j (-1) = _
 rw [bare_row h hs]
 exact getD_map' _ _ _ 0 _ hj
theorem bareK_nodup (d : PD) : (bareK d).Nodup := List.Pairwise.filter _ List.nodup_range
theorem bare_ok {d : PD} (h : d.Ok) : (bareP d).Ok ∧ ∀ q ∈ (bareP d).parts, q ≠ [] := by
 have hlen : (bareP d).p = (bareK d).length := bare_p d
 refine ⟨⟨?_, h.n1, h.n2, by simp [bareP, h.nl], fun q hq => ?_, fun i j hij hj x ⟨h1, h2⟩ => ?_, fun r hr => ?_, h.tags⟩, fun q hq => ?_⟩
 ·rw [hlen]
  have := List.length_filter_le (fun k => !(d.part k).isEmpty) (List.range d.p)
  rw [List.length_range] at this
  have := h.p1
  unfold bareK; omega
 ·obtain ⟨k, hk, rfl⟩ := List.mem_map.1 hq
  exact h.norm _ (PD.part_mem (bareK_mem.1 hk).1)
 ·rw [hlen] at hj
  rw [bare_part (by omega)] at h1
  rw [bare_part hj] at h2
  have e := part_apart h h1 h2
  have h3 : i < (bareK d).length := by omega
  simp only [List.getD_eq_getElem?_getD, List.getElem?_eq_getElem hj, List.getElem?_eq_getElem h3, Option.getD_some] at e
  have := (List.getElem_inj (h₀ := h3) (h₁ := hj) (bareK_nodup d)).1 e
  omega
 ·obtain ⟨r0, hr0, rfl⟩ := List.mem_map.1 hr
  refine ⟨by simp [hlen], fun x hx => ?_⟩
  obtain ⟨k, hk, rfl⟩ := List.mem_map.1 hx
  rcases getD_mem (l := r0) (i := k) (d := -1) with h1 | h1
  ·exact .inl h1
  ·exact (h.rows r0 hr0).2 _ h1
 ·obtain ⟨k, hk, rfl⟩ := List.mem_map.1 hq
  exact (bareK_mem.1 hk).2
theorem pruneX_ok {lv : Int → Bool} {n : Nat} {x : Int} (h : x = -1 ∨ In n x) : pruneX lv x = -1 ∨ In n (pruneX lv x) := by
 unfold pruneX
 split
 ·exact .inl rfl
 ·exact h
theorem prune_ok {d : PD} (h : d.Ok) (lv : Int → Bool) : (pruneP lv d).Ok :=
 ⟨h.p1, h.n1, h.n2, by simp [pruneP, h.nl], h.norm, h.apart, fun r hr => by
  obtain ⟨r0, hr0, rfl⟩ := List.mem_map.1 hr
  refine ⟨by rw [List.length_map]; exact (h.rows r0 hr0).1, fun x hx => ?_⟩
  obtain ⟨y, hy, rfl⟩ := List.mem_map.1 hx
  exact pruneX_ok ((h.rows r0 hr0).2 y hy), h.tags⟩
theorem IsLeast.final {d x : PD} (h : IsLeast d x) (hd : d.Ok) : ∃ (lv : Int → Bool) (κ : Int → Int), (∀ s, In d.n s → (lv s = true ↔ LiveS d.n (bareP d).row d.tag s)) ∧ (pruneP lv (bareP d)).Ok ∧ (∀ q ∈ (pruneP lv (bareP d)).parts, q ≠ []) ∧ Kinds (pruneP lv (bareP d)).n (pruneP lv (bareP d)).row (pruneP lv (bareP d)).tag κ ∧ x = finalP κ (pruneP lv (bareP d)) := by
 obtain ⟨lv, κ, h1, h2, h3⟩ := h.ex
 exact ⟨lv, κ, h1, prune_ok (bare_ok hd).1 lv, (bare_ok hd).2, h2, h3⟩
theorem IsLeast.ok {d x : PD} (h : IsLeast d x) (hd : d.Ok) : x.Ok := by
 obtain ⟨lv, κ, h1, h2, h3, h4, rfl⟩ := h.final hd
 exact final_ok h2 h4
theorem IsLeast.parts {d x : PD} (h : IsLeast d x) (hd : d.Ok) : (∀ q ∈ x.parts, q ≠ []) ∧ (∀ j, j < x.p → ∃ i, In x.n i ∧ col x.row i j ≠ -1) ∧ ∀ j j', j < x.p → j' < x.p → (∀ i, In x.n i → col x.row i j = col x.row i j') → j = j' := by
 obtain ⟨lv, κ, h1, h2, h3, h4, rfl⟩ := h.final hd
 refine ⟨fun q hq => ?_, final_parts h2 h4⟩
 obtain ⟨g, hg, rfl⟩ := List.mem_map.1 hq
 exact unis_ne h2 h3 h4 (ordL_mem.1 hg)
end Go.Proofs.YtpcbpgepjfenhaaGreatDoor
set_option linter.unusedVariables false
set_option linter.unusedSimpArgs false
namespace Go.Proofs.YtpcbpgepjfenhaaGreatDoor
open Go
theorem All2.map {α β γ δ : Type} {ρ : α → β → Prop} {σ : γ → δ → Prop} {f : α → γ} {g : β → δ} {l : List α} {m : List β} (h : All2 ρ l m) (hf : ∀ a b, ρ a b → σ (f a) (g b)) : All2 σ (l.map f) (m.map g) := by
 induction h with
 | nil => exact .nil
 | cons h1 _ ih => exact .cons (hf _ _ h1) ih
theorem All2.eq {α : Type} {l m : List α} (h : All2 (fun a b => a = b) l m) : l = m := by
 induction h with
 | nil => rfl
 | cons h1 _ ih => rw [h1, ih]
theorem All2.self {α : Type} {ρ : α → α → Prop} {l : List α} (h : ∀ a ∈ l, ρ a a) : All2 ρ l l := by
 induction l with
 | nil => exact .nil
 | cons a l ih => exact .cons (h a (by simp)) (ih fun b hb => h b (by simp [hb]))
structure Twin (κ1 κ2 : Int → Int) (d1 d2 : PD) (ρ : Int → Int → Prop) : Prop where
 parts : d1.parts = d2.parts
 in1 : ∀ {a b}, ρ a b → In d1.n a
 in2 : ∀ {a b}, ρ a b → In d2.n b
 eqv : ∀ {a b a' b'}, ρ a b → ρ a' b' → (κ1 a = κ1 a' ↔ κ2 b = κ2 b')
 cl : ∀ {a b}, ρ a b → ∀ k, Opt ρ (col d1.row a k) (col d2.row b k)
 tag : ∀ {a b}, ρ a b → d1.tag a = d2.tag b
 zero : ρ 0 0
theorem idx_pair {κ1 κ2 : Int → Int} {ρ : Int → Int → Prop} (he : ∀ {a b a' b'}, ρ a b → ρ a' b' → (κ1 a = κ1 a' ↔ κ2 b = κ2 b')) {l m : List Int} (h : All2 ρ l m) {y z : Int} (hyz : ρ y z) : (l.map κ1).idxOf (κ1 y) = (m.map κ2).idxOf (κ2 z) := by
 induction h with
 | nil => rfl
 | @cons a b l m h1 _ ih =>
  rw [List.map_cons, List.map_cons, List.idxOf_cons, List.idxOf_cons, ih]
  have := he h1 hyz
  by_cases e : κ1 a = κ1 y
  ·rw [e, this.1 e]; simp
  ·have e2 : ¬ κ2 b = κ2 z := fun h => e (this.2 h)
   have b1 : (κ1 a == κ1 y) = false := by simpa using e
   have b2 : (κ2 b == κ2 z) = false := by simpa using e2
   rw [b1, b2]
theorem Twin.same {κ1 κ2 : Int → Int} {d1 d2 : PD} {ρ : Int → Int → Prop} (hW : Twin κ1 κ2 d1 d2 ρ) (h1 : d1.Ok) (h2 : d2.Ok) (hK1 : Kinds d1.n d1.row d1.tag κ1) (hK2 : Kinds d2.n d2.row d2.tag κ2) : finalP κ1 d1 = finalP κ2 d2 := by
 have hp : d1.p = d2.p := by rw [PD.p, PD.p, hW.parts]
 have hpart : ∀ k, d1.part k = d2.part k := fun k => by rw [PD.part, PD.part, hW.parts]
 have hP : Pair κ1 κ2 d1.row d2.row ρ := ⟨hW.eqv, fun {a b} hab => by
  refine All2.of (by rw [h1.tab.len a (hW.in1 hab), h2.tab.len b (hW.in2 hab), hp]) fun k x y hx hy => ?_
  have := hW.cl hab k
  unfold col at this
  rw [List.getD_eq_getElem?_getD, List.getD_eq_getElem?_getD, hx, hy] at this
  exact this⟩
 have hL1 : All2 ρ (d1.L1 κ1) (d2.L1 κ2) := hP.reach h1.tab h2.tab h1.zero h2.zero hW.zero
 have kno : ∀ {a b}, ρ a b → ∀ {k k'}, (κ1 (col d1.row a k) = κ1 (col d1.row a k') ↔ κ2 (col d2.row b k) = κ2 (col d2.row b k')) := fun {a b} hab {k k'} => by
  rcases hW.cl hab k with ⟨e1, e2⟩ | ⟨e1, e2, e3⟩ <;> rcases hW.cl hab k' with ⟨f1, f2⟩ | ⟨f1, f2, f3⟩
  ·rw [e1, e2, f1, f2]; simp
  ·rw [e1, e2, hK1.no, hK2.no]
   have := hK1.yes _ (hW.in1 f3)
   have := hK2.yes _ (hW.in2 f3)
   constructor <;> intro h <;> omega
  ·rw [f1, f2, hK1.no, hK2.no]
   have := hK1.yes _ (hW.in1 e3)
   have := hK2.yes _ (hW.in2 e3)
   constructor <;> intro h <;> omega
  ·exact hW.eqv e3 f3
 have hany : anyC d1.row (d1.L1 κ1) = anyC d2.row (d2.L1 κ2) := by
  funext k
  rw [Bool.eq_iff_iff]
  simp only [anyC, List.any_eq_true, decide_eq_true_eq]
  constructor
  ·rintro ⟨s, hs, hn⟩
   obtain ⟨t, ht, hst⟩ := hL1.mem hs
   refine ⟨t, ht, fun e => ?_⟩
   rcases hW.cl hst k with ⟨e1, _⟩ | ⟨_, e2, _⟩
   ·exact hn e1
   ·exact e2 e
  ·rintro ⟨t, ht, hn⟩
   obtain ⟨s, hs, hst⟩ := hL1.mem' ht
   refine ⟨s, hs, fun e => ?_⟩
   rcases hW.cl hst k with ⟨_, e1⟩ | ⟨e2, _, _⟩
   ·exact hn e1
   ·exact e2 e
 have hal : alikeC κ1 d1.row (d1.L1 κ1) = alikeC κ2 d2.row (d2.L1 κ2) := by
  funext k k'
  rw [Bool.eq_iff_iff]
  simp only [alikeC, decide_eq_true_eq]
  rw [vec_eq, vec_eq]
  constructor
  ·intro h t ht
   obtain ⟨s, hs, hst⟩ := hL1.mem' ht
   exact (kno hst).1 (h s hs)
  ·intro h s hs
   obtain ⟨t, ht, hst⟩ := hL1.mem hs
   exact (kno hst).2 (h t ht)
 have hG : d1.G κ1 = d2.G κ2 := by unfold PD.G; rw [hany, hal, hp]
 have hU : unis d1 (d1.G κ1) = unis d2 (d2.G κ2) := by
  unfold unis
  rw [hG]
  apply List.map_congr_left
  intro ks _
  congr 1
  apply List.map_congr_left
  intro k _
  exact hpart k
 have hO : d1.O κ1 = d2.O κ2 := by unfold PD.O ordOf; rw [hU, hG]
 have hC : d1.cols κ1 = d2.cols κ2 := by unfold PD.cols; rw [hO, hG]
 have hR : ∀ {a b}, ρ a b → All2 (Opt ρ) (d1.R2 κ1 a) (d2.R2 κ2 b) := fun {a b} hab => by
  unfold PD.R2
  rw [hC]
  exact (All2.self (ρ := fun a b => a = b) fun _ _ => rfl).map fun k k' e => by subst e; exact hW.cl hab k
 have hP2 : Pair κ1 κ2 (d1.R2 κ1) (d2.R2 κ2) ρ := ⟨hW.eqv, hR⟩
 have hL2 : All2 ρ (d1.L2 κ1) (d2.L2 κ2) := hP2.reach (R2_tab h1 hK1) (R2_tab h2 hK2) h1.zero h2.zero hW.zero
 unfold finalP
 rw [PD.ext'_iff]
 refine ⟨?_, All2.eq (hL2.map fun a b hab => ?_), All2.eq (hL2.map fun a b hab => hW.tag hab)⟩
 ·show (d1.O κ1).map _ = (d2.O κ2).map _
  rw [hO, hU]
 ·refine All2.eq ((hR hab).map fun x y hxy => ?_)
  rcases hxy with ⟨rfl, rfl⟩ | ⟨n1, n2, h3⟩
  ·rw [placeK_no, placeK_no]
  ·rw [placeK, placeK, if_neg n1, if_neg n2, idx_pair (κ1 := κ1) (κ2 := κ2) (ρ := ρ) hW.eqv hL2 h3]
structure Named (π : Int → Int) (d e : PD) : Prop where
 parts : d.parts = e.parts
 n : d.n = e.n
 zero : π 0 = 0
 no : π (-1) = -1
 inn : ∀ s, In d.n s → In d.n (π s)
 inv : ∀ s, π (π s) = s
 cl : ∀ s, In d.n s → ∀ k, col e.row s k = π (col d.row (π s) k)
 tag : ∀ s, In d.n s → e.tag s = d.tag (π s)
theorem Named.back {π : Int → Int} {d e : PD} (h : Named π d e) : Named π e d := by
 refine ⟨h.parts.symm, h.n.symm, h.zero, h.no, by rw [← h.n]; exact h.inn, h.inv, fun s hs k => ?_, fun s hs => ?_⟩
 ·rw [← h.n] at hs
  rw [h.cl _ (h.inn s hs), h.inv, h.inv]
 ·rw [← h.n] at hs
  rw [h.tag _ (h.inn s hs), h.inv]
theorem Named.bis {π : Int → Int} {d e : PD} (hN : Named π d e) (hd : d.Ok) (he : e.Ok) {κ : Int → Int} (hK : Kinds e.n e.row e.tag κ) : Bis d.n d.row d.tag fun a b => κ (π a) = κ (π b) := by
 intro s t hs ht hst
 have is : In e.n (π s) := by rw [← hN.n]; exact hN.inn s hs
 have it : In e.n (π t) := by rw [← hN.n]; exact hN.inn t ht
 refine ⟨?_, fun k => ?_⟩
 ·have := hK.tag _ _ is it hst
  rwa [hN.tag _ (hN.inn s hs), hN.tag _ (hN.inn t ht), hN.inv, hN.inv] at this
 ·have h1 := hK.step _ _ is it hst k
  have c1 := hN.cl _ (hN.inn s hs) k
  have c2 := hN.cl _ (hN.inn t ht) k
  rw [hN.inv] at c1 c2
  have m1 := hK.col_no he.tab is (k := k)
  have m2 := hK.col_no he.tab it (k := k)
  have z1 : col e.row (π s) k = -1 ↔ col d.row s k = -1 := by
   rw [c1]
   exact ⟨fun h => by rw [← hN.inv (col d.row s k), h, hN.no], fun h => by rw [h, hN.no]⟩
  have z2 : col e.row (π t) k = -1 ↔ col d.row t k = -1 := by
   rw [c2]
   exact ⟨fun h => by rw [← hN.inv (col d.row t k), h, hN.no], fun h => by rw [h, hN.no]⟩
  by_cases e1 : col d.row s k = -1
  ·left
   refine ⟨e1, z2.1 (m2.1 ?_)⟩
   rw [← h1]
   exact m1.2 (z1.2 e1)
  ·right
   refine ⟨e1, fun e2 => e1 (z1.1 (m1.1 ?_)), ?_⟩
   ·rw [h1]
    exact m2.2 (z2.2 e2)
   ·show κ (π (col d.row s k)) = κ (π (col d.row t k))
    rw [← c1, ← c2]
    exact h1
theorem Named.same {π : Int → Int} {d e : PD} (hN : Named π d e) (hd : d.Ok) (he : e.Ok) {κd κe : Int → Int} (hKd : Kinds d.n d.row d.tag κd) (hKe : Kinds e.n e.row e.tag κe) : finalP κd d = finalP κe e := by
 have hiff : ∀ s t, In d.n s → In d.n t → (κd s = κd t ↔ κe (π s) = κe (π t)) := fun s t hs ht => by
  constructor
  ·intro h
   have := hKe.least _ (hN.back.bis he hd hKd) (π s) (π t) (by rw [← hN.n]; exact hN.inn s hs) (by rw [← hN.n]; exact hN.inn t ht) (by rw [hN.inv, hN.inv]; exact h)
   exact this
  ·exact fun h => hKd.least _ (hN.bis hd he hKe) s t hs ht h
 refine Twin.same (ρ := fun a b => In d.n a ∧ In d.n b ∧ κe (π a) = κe b) ⟨hN.parts, fun h => h.1, fun h => by rw [← hN.n]; exact h.2.1, fun {a b a' b'} h h' => ?_, fun {a b} h k => ?_, fun {a b} h => ?_, ⟨hd.zero, hd.zero, by rw [hN.zero]⟩⟩ hd he hKd hKe
 ·rw [hiff a a' h.1 h'.1, h.2.2, h'.2.2]
 ·obtain ⟨h1, h2, h3⟩ := h
  have i1 : In e.n (π a) := by rw [← hN.n]; exact hN.inn a h1
  have i2 : In e.n b := by rw [← hN.n]; exact h2
  have h4 := hKe.step _ _ i1 i2 h3 k
  have c1 := hN.cl _ (hN.inn a h1) k
  rw [hN.inv] at c1
  rw [c1] at h4
  rcases hd.tab.col h1 k with e1 | e1
  ·left
   rw [e1, hN.no, hKe.no] at h4
   exact ⟨e1, (hKe.col_no he.tab i2).1 h4.symm⟩
  ·right
   have e2 : col e.row b k ≠ -1 := fun e2 => by
    rw [e2, hKe.no] at h4
    have := hKe.yes (π (col d.row a k)) (by rw [← hN.n]; exact hN.inn _ e1)
    omega
   refine ⟨e1.ne, e2, e1, ?_, h4⟩
   have := (he.tab.col i2 k).resolve_left e2
   rw [hN.n]; exact this
 ·obtain ⟨h1, h2, h3⟩ := h
  have i1 : In e.n (π a) := by rw [← hN.n]; exact hN.inn a h1
  have := hKe.tag _ _ i1 (by rw [← hN.n]; exact h2) h3
  rw [← this, hN.tag _ (hN.inn a h1), hN.inv]
theorem Named.bare {π : Int → Int} {d e : PD} (hN : Named π d e) (hd : d.Ok) (he : e.Ok) : Named π (bareP d) (bareP e) := by
 have hb : bareK d = bareK e := by
  unfold bareK PD.p PD.part
  rw [hN.parts]
 have hbc : ∀ {d : PD}, d.Ok → ∀ {s}, In d.n s → ∀ k, ¬ k < (bareK d).length → col (bareP d).row s k = -1 := fun h s hs k hk => by
  show ((bareP _).row s).getD k (-1) = _
  rw [bare_row h hs]
  exact getD_out (by simpa using hk)
 refine ⟨?_, hN.n, hN.zero, hN.no, hN.inn, hN.inv, fun s hs k => ?_, hN.tag⟩
 ·show (bareK d).map d.part = (bareK e).map e.part
  rw [hb]
  apply List.map_congr_left
  intro k _
  unfold PD.part
  rw [hN.parts]
 ·have hs1 : In d.n s := hs
  have hs2 : In e.n s := by rw [← hN.n]; exact hs
  have hp := hN.inn s hs
  by_cases hk : k < (bareK d).length
  ·rw [bare_col he hs2 (by rw [← hb]; exact hk), bare_col hd hp hk, ← hb, hN.cl s hs1]
  ·rw [hbc he hs2 k (by rw [← hb]; exact hk), hbc hd hp k hk, hN.no]
theorem Named.live {π : Int → Int} {d e : PD} (hN : Named π d e) (hd : d.Ok) (he : e.Ok) {s : Int} (h : LiveS d.n d.row d.tag s) : LiveS e.n e.row e.tag (π s) := by
 induction h with
 | @tag s hs ht =>
  refine .tag (by rw [← hN.n]; exact hN.inn s hs) ?_
  rw [hN.tag _ (hN.inn s hs), hN.inv]
  exact ht
 | @step s x hs hx hxi _ ih =>
  obtain ⟨k, hk, rfl⟩ := mem_col hx
  have hne := hxi.ne
  have c := hN.cl _ (hN.inn s hs) k
  rw [hN.inv] at c
  refine .step (x := π (col d.row s k)) (by rw [← hN.n]; exact hN.inn s hs) ?_ (by rw [← hN.n]; exact hN.inn _ hxi) ih
  rw [← c]
  refine col_mem ?_
  rw [c]
  intro e1
  apply hne
  rw [← hN.inv (col d.row s k), e1, hN.no]
theorem Named.prune {π : Int → Int} {d e : PD} (hN : Named π d e) (hd : d.Ok) (he : e.Ok) {lv lw : Int → Bool} (hl : ∀ s, In d.n s → (lv s = true ↔ LiveS d.n d.row d.tag s)) (hw : ∀ s, In e.n s → (lw s = true ↔ LiveS e.n e.row e.tag s)) : Named π (pruneP lv d) (pruneP lw e) := by
 refine ⟨hN.parts, hN.n, hN.zero, hN.no, hN.inn, hN.inv, fun s hs k => ?_, hN.tag⟩
 have hs1 : In d.n s := hs
 rw [prune_col, prune_col, hN.cl s hs1]
 rcases hd.tab.col (hN.inn s hs1) k with e1 | e1
 ·rw [e1, hN.no]; simp [pruneX, hN.no]
 ·have e2 := hN.inn _ e1
  have e3 : In e.n (π (col d.row (π s) k)) := by rw [← hN.n]; exact e2
  have hiff : lw (π (col d.row (π s) k)) = true ↔ lv (col d.row (π s) k) = true := by
   rw [hw _ e3, hl _ e1]
   constructor
   ·intro h
    have := hN.back.live he hd h
    rwa [hN.inv] at this
   ·exact hN.live hd he
  unfold pruneX
  by_cases hb : lv (col d.row (π s) k) = true
  ·rw [if_neg (fun h => by rw [hiff.2 hb] at h; cases h.2), if_neg (fun h => by rw [hb] at h; cases h.2)]
  ·rw [if_pos ⟨e3.ne, by rw [Bool.eq_false_iff]; exact fun h => hb (hiff.1 h)⟩, if_pos ⟨e1.ne, by rw [Bool.eq_false_iff]; exact hb⟩, hN.no]
theorem IsLeast.names {π : Int → Int} {d e x y : PD} (hN : Named π d e) (hd : d.Ok) (he : e.Ok) (hx : IsLeast d x) (hy : IsLeast e y) : x = y := by
 obtain ⟨lv, κ, h1, h2, h3, h4, rfl⟩ := hx.final hd
 obtain ⟨lw, κ', g1, g2, g3, g4, rfl⟩ := hy.final he
 exact ((hN.bare hd he).prune (bare_ok hd).1 (bare_ok he).1 h1 g1).same h2 g2 h4 g4
theorem accAt_congr {n p : Nat} {κ : Int → Int} {R R' : Int → List Int} {s0 : Int} (hT : Tab n p R) (h0 : In n s0) (he : ∀ s, In n s → R s = R' s) : ∀ i, accAt κ R s0 i = accAt κ R' s0 i
 | 0 => rfl
 | i + 1 => by
  have ih := accAt_congr hT h0 he (κ := κ) i
  rw [accAt, accAt, ← ih]
  split
  ·rename_i s hs
   rw [he s ((accAt_come hT h0 i).1.inn s (List.mem_of_getElem? hs))]
  ·rfl
section
variable {κ : Int → Int} {d : PD} (h : d.Ok) (hne : ∀ q ∈ d.parts, q ≠ []) (hK : Kinds d.n d.row d.tag κ)
include h hK
end
end Go.Proofs.YtpcbpgepjfenhaaGreatDoor
set_option linter.unusedVariables false
set_option linter.unusedSimpArgs false
namespace Go.Proofs.YtpcbpgepjfenhaaGreatDoor
open Go
def sizeF (l : List Span) : Int := l.foldl (fun n s => n + (s.hi - s.lo + 1)) 0
theorem sizeF_snoc (l : List Span) (s : Span) : sizeF (l ++ [s]) = sizeF l + (s.hi - s.lo + 1) := by simp [sizeF]
theorem sizeF_from (l : List Span) : ∀ n : Int, l.foldl (fun n s => n + (s.hi - s.lo + 1)) n = n + sizeF l := by
 induction l with
 | nil => intro n; simp [sizeF]
 | cons a l ih =>
  intro n
  unfold sizeF
  rw [List.foldl_cons, List.foldl_cons, ih, ih (0 + _)]
  omega
theorem sizeF_cons (a : Span) (l : List Span) : sizeF (a :: l) = (a.hi - a.lo + 1) + sizeF l := by
 have := sizeF_from l (0 + (a.hi - a.lo + 1))
 unfold sizeF at *
 rw [List.foldl_cons, this]
 omega
def hasB (l : List Span) (x : Nat) : Bool := l.any fun s => decide (s.lo ≤ x) && decide ((x : Int) ≤ s.hi)
theorem hasB_iff {l : List Span} {x : Nat} : hasB l x = true ↔ inS l x := by
 unfold hasB inS
 simp only [List.any_eq_true, Bool.and_eq_true, decide_eq_true_eq]
def topN : Nat := 1114112
theorem topN_eq : topN = 1114112 := rfl
attribute [local irreducible] topN
def cntB (q : Nat → Bool) : Nat := (List.range topN).countP q
theorem countP_or {α : Type} (p q : α → Bool) : ∀ l : List α, l.countP (fun x => p x || q x) + l.countP (fun x => p x && q x) = l.countP p + l.countP q
 | [] => rfl
 | a :: l => by
  have ih := countP_or p q l
  simp only [List.countP_cons]
  cases p a <;> cases q a <;> simp <;> omega
theorem count_span (s : Span) (h0 : 0 ≤ s.lo) (h1 : s.lo ≤ s.hi + 1) : ∀ n : Nat, ((List.range n).countP (fun x : Nat => decide (s.lo ≤ x) && decide ((x : Int) ≤ s.hi)) : Int) = min (n : Int) (s.hi + 1) - min (n : Int) s.lo
 | 0 => by simp; omega
 | n + 1 => by
  have ih := count_span s h0 h1 n
  rw [List.range_succ, List.countP_append]
  simp only [List.countP_cons, List.countP_nil, Nat.zero_add]
  by_cases h2 : s.lo ≤ n <;> by_cases h3 : (n : Int) ≤ s.hi
  all_goals simp only [h2, h3, decide_true, decide_false, Bool.and_true, Bool.and_false, Bool.true_and, Bool.false_and, if_true, if_false, Bool.false_eq_true]
  all_goals omega
theorem size_count : ∀ {l : List Span}, Canon l → (∀ s ∈ l, 0 ≤ s.lo ∧ s.hi ≤ 1114111) → sizeF l = (cntB (hasB l) : Int)
 | [], _, _ => by
  have : cntB (hasB []) = 0 := by
   unfold cntB
   rw [List.countP_eq_zero]
   intro x _
   simp [hasB]
  rw [this]; rfl
 | a :: l, hc, hr => by
  have ih := size_count (canon_tail hc) fun s hs => hr s (by simp [hs])
  have ha := hr a (by simp)
  have h1 := hc.2 a (by simp)
  have h2 := countP_or (fun x : Nat => decide (a.lo ≤ x) && decide ((x : Int) ≤ a.hi)) (hasB l) (List.range topN)
  have h3 : (List.range topN).countP (fun x : Nat => (decide (a.lo ≤ x) && decide ((x : Int) ≤ a.hi)) && hasB l x) = 0 := by
   rw [List.countP_eq_zero]
   intro x _ h
   simp only [Bool.and_eq_true, decide_eq_true_eq] at h
   have := canon_above hc (hasB_iff.1 h.2)
   omega
  have h4 := count_span a ha.1 (by omega) topN
  have h5 : cntB (hasB (a :: l)) = (List.range topN).countP (fun x : Nat => (decide (a.lo ≤ x) && decide ((x : Int) ≤ a.hi)) || hasB l x) := rfl
  rw [sizeF_cons, ih, h5]
  unfold cntB
  rw [h3] at h2
  have htop := topN_eq
  have e1 : min (topN : Int) (a.hi + 1) = a.hi + 1 := by omega
  have e2 : min (topN : Int) a.lo = a.lo := by omega
  rw [e1, e2] at h4
  generalize (List.range topN).countP (fun x : Nat => decide (a.lo ≤ x) && decide ((x : Int) ≤ a.hi)) = c1 at h2 h4
  generalize (List.range topN).countP (hasB l) = c2 at h2 ⊢
  generalize (List.range topN).countP (fun x : Nat => (decide (a.lo ≤ x) && decide ((x : Int) ≤ a.hi)) || hasB l x) = c3 at h2 ⊢
  omega
theorem norm_range {l : List Span} (h : normS l = l) : ∀ s ∈ l, 0 ≤ s.lo ∧ s.hi ≤ 1114111 := fun s hs => by
 have h1 := (norm_canon h).2 s hs
 have h2 := scal_iff.1 (norm_scal h ⟨s, hs, Int.le_refl _, h1⟩)
 have h3 := scal_iff.1 (norm_scal h ⟨s, hs, h1, Int.le_refl _⟩)
 omega
theorem size_norm {l : List Span} (h : normS l = l) : sizeF l = (cntB (hasB l) : Int) := size_count (norm_canon h) (norm_range h)
theorem sizeF_len {l : List Span} (h : ∀ s ∈ l, s.lo ≤ s.hi) : (l.length : Int) ≤ sizeF l := by
 induction l with
 | nil => simp [sizeF]
 | cons a l ih =>
  have h1 := ih fun s hs => h s (by simp [hs])
  have h2 := h a (by simp)
  rw [sizeF_cons, List.length_cons]
  omega
theorem norm_len_le {l : List Span} (h : normS l = l) : l.length ≤ 1114112 := by
 have h1 := size_norm h
 have h2 := sizeF_len (norm_canon h).2
 have h3 : cntB (hasB l) ≤ topN := by
  unfold cntB
  have := List.countP_le_length (p := hasB l) (l := List.range topN)
  rwa [List.length_range] at this
 have h4 := topN_eq
 omega
def catL (P : List (List Span)) : List Span := P.flatMap id
theorem inS_catL {P : List (List Span)} {x : Int} : inS (catL P) x ↔ ∃ p ∈ P, inS p x := by
 unfold catL inS
 constructor
 ·rintro ⟨s, hs, h⟩
  obtain ⟨p, hp, hsp⟩ := List.mem_flatMap.1 hs
  exact ⟨p, hp, s, hsp, h⟩
 ·rintro ⟨p, hp, s, hs, h⟩
  exact ⟨s, List.mem_flatMap.2 ⟨p, hp, hs⟩, h⟩
theorem inS_norm_catL {P : List (List Span)} (hn : ∀ p ∈ P, normS p = p) {x : Int} : inS (normS (catL P)) x ↔ ∃ p ∈ P, inS p x := by
 rw [inS_normS, inS_catL]
 constructor
 ·exact fun h => h.2
 ·rintro ⟨p, hp, h⟩
  exact ⟨norm_scal (hn p hp) h, p, hp, h⟩
def sizesF (P : List (List Span)) : Int := P.foldl (fun n p => n + sizeF p) 0
theorem sizesF_snoc (P : List (List Span)) (p : List Span) : sizesF (P ++ [p]) = sizesF P + sizeF p := by simp [sizesF]
def ApartP (P : List (List Span)) : Prop := ∀ i j, i < j → j < P.length → ∀ x, ¬ (inS (P.getD i []) x ∧ inS (P.getD j []) x)
theorem apart_snoc {P : List (List Span)} {p : List Span} : ApartP (P ++ [p]) ↔ ApartP P ∧ ∀ x, ¬ ((∃ q ∈ P, inS q x) ∧ inS p x) := by
 have g1 : ∀ {i}, i < P.length → (P ++ [p]).getD i [] = P.getD i [] := fun hi => by
  simp [List.getD_eq_getElem?_getD, List.getElem?_append_left hi]
 have g2 : (P ++ [p]).getD P.length [] = p := by simp [List.getD_eq_getElem?_getD]
 constructor
 ·intro h
  refine ⟨fun i j hij hj x hx => h i j hij (by simp; omega) x (by rw [g1 (by omega), g1 hj]; exact hx), fun x ⟨⟨q, hq, h1⟩, h2⟩ => ?_⟩
  obtain ⟨i, hi, rfl⟩ := List.getElem_of_mem hq
  refine h i P.length hi (by simp) x ⟨?_, by rw [g2]; exact h2⟩
  rw [g1 hi]
  simpa [List.getD_eq_getElem?_getD, hi] using h1
 ·rintro ⟨h1, h2⟩ i j hij hj x ⟨h3, h4⟩
  rw [List.length_append] at hj
  simp only [List.length_cons, List.length_nil] at hj
  by_cases hj2 : j < P.length
  ·rw [g1 (by omega)] at h3
   rw [g1 hj2] at h4
   exact h1 i j hij hj2 x ⟨h3, h4⟩
  ·have : j = P.length := by omega
   subst this
   rw [g2] at h4
   rw [g1 hij] at h3
   refine h2 x ⟨⟨P.getD i [], getD_in hij, h3⟩, h4⟩
theorem sizes_apart (P : List (List Span)) : (∀ p ∈ P, normS p = p) → sizeF (normS (catL P)) ≤ sizesF P ∧ (sizeF (normS (catL P)) = sizesF P ↔ ApartP P) := by
 refine snoc_ind (P := fun P => (∀ p ∈ P, normS p = p) → sizeF (normS (catL P)) ≤ sizesF P ∧ (sizeF (normS (catL P)) = sizesF P ↔ ApartP P)) ?_ ?_ P
 ·intro _
  have e : normS (catL []) = [] := (uniL_ok (l := []) (by simp)).1
  rw [e]
  exact ⟨Int.le_refl _, fun _ i j _ hj => by simp at hj, fun _ => rfl⟩
 ·intro P p ih hn
  have hnP : ∀ q ∈ P, normS q = q := fun q hq => hn q (by simp [hq])
  have hnp : normS p = p := hn p (by simp)
  obtain ⟨i1, i2⟩ := ih hnP
  have hU := size_norm (normS_norm (catL P))
  have hU2 := size_norm (normS_norm (catL (P ++ [p])))
  have hp := size_norm hnp
  have hco := countP_or (hasB (normS (catL P))) (hasB p) (List.range topN)
  have hor : (List.range topN).countP (fun x => hasB (normS (catL P)) x || hasB p x) = cntB (hasB (normS (catL (P ++ [p])))) := by
   unfold cntB
   congr 1
   funext x
   rw [Bool.eq_iff_iff, Bool.or_eq_true, hasB_iff, hasB_iff, hasB_iff, inS_norm_catL hnP, inS_norm_catL hn]
   constructor
   ·rintro (⟨q, hq, h⟩ | h)
    ·exact ⟨q, by simp [hq], h⟩
    ·exact ⟨p, by simp, h⟩
   ·rintro ⟨q, hq, h⟩
    rcases List.mem_append.1 hq with hq | hq
    ·exact .inl ⟨q, hq, h⟩
    ·simp at hq; subst hq; exact .inr h
  have h0 : (List.range topN).countP (fun x => hasB (normS (catL P)) x && hasB p x) = 0 ↔ ∀ x, ¬ ((∃ q ∈ P, inS q x) ∧ inS p x) := by
   rw [List.countP_eq_zero]
   constructor
   ·rintro h x ⟨⟨q, hq, h1⟩, h2⟩
    have hs := scal_iff.1 (norm_scal hnp h2)
    have hx : (x.toNat : Int) = x := by omega
    have htop := topN_eq
    refine h x.toNat (by rw [List.mem_range]; omega) ?_
    rw [Bool.and_eq_true, hasB_iff, hasB_iff, hx, inS_norm_catL hnP]
    exact ⟨⟨q, hq, h1⟩, h2⟩
   ·intro h x _ hb
    rw [Bool.and_eq_true, hasB_iff, hasB_iff, inS_norm_catL hnP] at hb
    exact h x hb
  rw [hor] at hco
  rw [sizesF_snoc, apart_snoc, ← h0, ← i2]
  rw [hU2, hp]
  rw [hU] at i1 i2 ⊢
  unfold cntB at *
  generalize (List.range topN).countP (fun x => hasB (normS (catL P)) x && hasB p x) = c1 at hco ⊢
  omega
end Go.Proofs.YtpcbpgepjfenhaaGreatDoor
set_option linter.unusedVariables false
set_option linter.unusedSimpArgs false
namespace Go.Proofs.YtpcbpgepjfenhaaGreatDoor
open Go
structure BackOk (n : Nat) (R : Int → List Int) (i : Nat) (front : Int → Prop) (bs : List (List Int)) : Prop where
 len : bs.length = n
 mem : ∀ (t : Nat), t < n → ∀ f : Int, f ∈ bs.getD t [] ↔ (0 ≤ f ∧ f < i ∧ (t : Int) ∈ R f) ∨ (f = i ∧ front t)
theorem BackOk.begin (n : Nat) (R : Int → List Int) : BackOk n R 0 (fun _ => False) (List.replicate n []) :=
 ⟨by simp, fun t ht f => by
  have : (List.replicate n ([] : List Int)).getD t [] = [] := by simp [List.getD_eq_getElem?_getD, ht]
  rw [this]
  constructor
  ·intro h; cases h
  ·rintro (⟨h1, h2, _⟩ | ⟨_, h⟩)
   ·omega
   ·exact h.elim⟩
theorem BackOk.iff {n : Nat} {R : Int → List Int} {i : Nat} {F F' : Int → Prop} {bs : List (List Int)} (hb : BackOk n R i F bs) (h : ∀ t : Nat, F t ↔ F' t) : BackOk n R i F' bs :=
 ⟨hb.len, fun t ht f => by rw [hb.mem t ht f, h]⟩
theorem BackOk.add {n : Nat} {R : Int → List Int} {i : Nat} {F : Int → Prop} {bs : List (List Int)} (hb : BackOk n R i F bs) {x : Nat} (hx : x < n) : BackOk n R i (fun t => F t ∨ t = x) (bs.set x (bs.getD x [] ++ [(i : Int)])) := by
 refine ⟨by simp [hb.len], fun t ht f => ?_⟩
 have hl := hb.len
 by_cases e : x = t
 ·subst e
  have : (bs.set x (bs.getD x [] ++ [(i : Int)])).getD x [] = bs.getD x [] ++ [(i : Int)] := by
   rw [List.getD_eq_getElem?_getD, List.getElem?_set_self (by omega)]; rfl
  rw [this, List.mem_append, hb.mem x ht f, List.mem_singleton]
  constructor
  ·rintro ((h | h) | h)
   ·exact .inl h
   ·exact .inr ⟨h.1, .inl h.2⟩
   ·exact .inr ⟨h, .inr rfl⟩
  ·rintro (h | ⟨h, _⟩)
   ·exact .inl (.inl h)
   ·exact .inr h
 ·have : (bs.set x (bs.getD x [] ++ [(i : Int)])).getD t [] = bs.getD t [] := by
   rw [List.getD_eq_getElem?_getD, List.getElem?_set_ne e, ← List.getD_eq_getElem?_getD]
  rw [this, hb.mem t ht f]
  have e2 : ¬ ((t : Int) = (x : Int)) := by omega
  simp [e2]
theorem BackOk.next {n : Nat} {R : Int → List Int} {i : Nat} {bs : List (List Int)} (hb : BackOk n R i (fun t => t ∈ R i) bs) : BackOk n R (i + 1) (fun _ => False) bs :=
 ⟨hb.len, fun t ht f => by
  rw [hb.mem t ht f]
  constructor
  ·rintro (⟨h1, h2, h3⟩ | ⟨rfl, h⟩)
   ·exact .inl ⟨h1, by omega, h3⟩
   ·exact .inl ⟨by omega, by omega, h⟩
  ·rintro (⟨h1, h2, h3⟩ | ⟨_, h⟩)
   ·by_cases e : f = i
    ·subst e; exact .inr ⟨rfl, h3⟩
    ·exact .inl ⟨h1, by omega, h3⟩
   ·exact h.elim⟩
structure LiveInv (n : Nat) (R : Int → List Int) (T : Int → Int) (bs : List (List Int)) (os : List Bool) (ls : List Nat) (cur : Nat → Prop) (seen : Int → Prop) : Prop where
 len : os.length = n
 sound : ∀ q : Nat, os[q]? = some true → LiveS n R T q
 tags : ∀ q : Nat, q < n → 0 ≤ T q → os[q]? = some true
 left : ∀ q ∈ ls, os[q]? = some true
 closed : ∀ q : Nat, os[q]? = some true → q ∈ ls ∨ ∀ f ∈ bs.getD q [], os[f.toNat]? = some true ∨ (cur q ∧ ¬ seen f)
 curs : ∀ q, cur q → os[q]? = some true
theorem LiveInv.done {n p : Nat} {R : Int → List Int} {T : Int → Int} {bs : List (List Int)} {os : List Bool} (hT : Tab n p R) (hb : BackOk n R n (fun _ => False) bs) (h : LiveInv n R T bs os [] (fun _ => False) (fun _ => True)) {s : Int} (hs : In n s) : os.getD s.toNat false = true ↔ LiveS n R T s := by
 have e : (s.toNat : Int) = s := by unfold In at hs; omega
 have hlt : s.toNat < os.length := by rw [h.len]; unfold In at hs; omega
 have hg : os.getD s.toNat false = true ↔ os[s.toNat]? = some true := by
  rw [List.getD_eq_getElem?_getD, List.getElem?_eq_getElem hlt]; simp
 rw [hg]
 constructor
 ·intro h1
  have := h.sound _ h1
  rwa [e] at this
 ·intro hl
  induction hl with
  | @tag s hs ht => exact h.tags s.toNat (by unfold In at hs; omega) (by rw [Int.toNat_of_nonneg hs.1]; exact ht)
  | @step s x hs hx hxi _ ih =>
   have hx1 := ih hxi (by rw [Int.toNat_of_nonneg hxi.1]) (by rw [h.len]; unfold In at hxi; omega) (by
    rw [List.getD_eq_getElem?_getD, List.getElem?_eq_getElem (show x.toNat < os.length by rw [h.len]; unfold In at hxi; omega)]; simp)
   rcases h.closed _ hx1 with h2 | h2
   ·cases h2
   ·have h3 : s ∈ bs.getD x.toNat [] := (hb.mem x.toNat (by unfold In at hxi; omega) s).2 (.inl ⟨hs.1, hs.2, by rw [Int.toNat_of_nonneg hxi.1]; exact hx⟩)
    rcases h2 s h3 with h4 | h4
    ·exact h4
    ·exact h4.1.elim
theorem LiveInv.pop {n : Nat} {R : Int → List Int} {T : Int → Int} {bs : List (List Int)} {os : List Bool} {ls : List Nat} {i : Nat} (h : LiveInv n R T bs os (ls ++ [i]) (fun _ => False) (fun _ => True)) : LiveInv n R T bs os ls (fun q => q = i) (fun _ => False) := by
 refine ⟨h.len, h.sound, h.tags, fun q hq => h.left q (by simp [hq]), fun q hq => ?_, fun q hq => by subst hq; exact h.left q (by simp)⟩
 rcases h.closed q hq with h1 | h1
 ·rcases List.mem_append.1 h1 with h1 | h1
  ·exact .inl h1
  ·simp at h1; subst h1
   exact .inr fun f _ => .inr ⟨rfl, fun h => h⟩
 ·right
  intro f hf
  rcases h1 f hf with h2 | h2
  ·exact .inl h2
  ·exact h2.1.elim
theorem LiveInv.iff {n : Nat} {R : Int → List Int} {T : Int → Int} {bs : List (List Int)} {os : List Bool} {ls : List Nat} {cur : Nat → Prop} {S S' : Int → Prop} (h : LiveInv n R T bs os ls cur S) (hs : ∀ f, S' f → S f) : LiveInv n R T bs os ls cur S' :=
 ⟨h.len, h.sound, h.tags, h.left, fun q hq => (h.closed q hq).imp id fun h1 f hf => (h1 f hf).imp id fun ⟨a, b⟩ => ⟨a, fun c => b (hs f c)⟩, h.curs⟩
theorem LiveInv.old {n : Nat} {R : Int → List Int} {T : Int → Int} {bs : List (List Int)} {os : List Bool} {ls : List Nat} {cur : Nat → Prop} {S : Int → Prop} (h : LiveInv n R T bs os ls cur S) {x : Int} (hx : os[x.toNat]? = some true) : LiveInv n R T bs os ls cur (fun f => S f ∨ f = x) :=
 ⟨h.len, h.sound, h.tags, h.left, fun q hq => (h.closed q hq).imp id fun h1 f hf => by
  rcases h1 f hf with h2 | h2
  ·exact .inl h2
  ·by_cases e : f = x
   ·subst e; exact .inl hx
   ·exact .inr ⟨h2.1, fun h3 => h3.elim h2.2 e⟩, h.curs⟩
theorem set_get_true {os : List Bool} {i q : Nat} (hi : i < os.length) : (os.set i true)[q]? = some true ↔ q = i ∨ os[q]? = some true := by
 rw [List.getElem?_set]
 by_cases e : i = q
 ·subst e; simp [hi]
 ·have e2 : ¬ q = i := fun h => e h.symm
  simp [e, e2]
theorem LiveInv.mark {n : Nat} {R : Int → List Int} {T : Int → Int} {bs : List (List Int)} {os : List Bool} {ls : List Nat} {cur : Nat → Prop} {S : Int → Prop} (h : LiveInv n R T bs os ls cur S) {x : Int} (hx : In n x) (hl : LiveS n R T x) : LiveInv n R T bs (os.set x.toNat true) (ls ++ [x.toNat]) cur (fun f => S f ∨ f = x) := by
 have hlt : x.toNat < os.length := by rw [h.len]; unfold In at hx; omega
 have st := fun q => set_get_true (q := q) hlt
 refine ⟨by simp [h.len], fun q hq => ?_, fun q hq hT => (st q).2 (.inr (h.tags q hq hT)), fun q hq => (st q).2 ?_, fun q hq => ?_, fun q hq => (st q).2 (.inr (h.curs q hq))⟩
 ·rcases (st q).1 hq with rfl | h1
  ·rw [Int.toNat_of_nonneg hx.1]; exact hl
  ·exact h.sound q h1
 ·rcases List.mem_append.1 hq with hq | hq
  ·exact .inr (h.left q hq)
  ·simp at hq; exact .inl hq
 ·rcases (st q).1 hq with rfl | h1
  ·exact .inl (by simp)
  ·rcases h.closed q h1 with h2 | h2
   ·exact .inl (by simp [h2])
   ·right
    intro f hf
    rcases h2 f hf with h3 | h3
    ·exact .inl ((st _).2 (.inr h3))
    ·by_cases e : f = x
     ·subst e; exact .inl ((st _).2 (.inl rfl))
     ·exact .inr ⟨h3.1, fun h4 => h4.elim h3.2 e⟩
theorem LiveInv.end_ {n : Nat} {R : Int → List Int} {T : Int → Int} {bs : List (List Int)} {os : List Bool} {ls : List Nat} {i : Nat} (h : LiveInv n R T bs os ls (fun q => q = i) (fun f => f ∈ bs.getD i [])) : LiveInv n R T bs os ls (fun _ => False) (fun _ => True) := by
 refine ⟨h.len, h.sound, h.tags, h.left, fun q hq => (h.closed q hq).imp id fun h1 f hf => ?_, fun q hq => hq.elim⟩
 rcases h1 f hf with h2 | ⟨rfl, h2⟩
 ·exact .inl h2
 ·exact absurd hf h2
def tagB (T : List Int) (n i : Nat) : List Bool := (List.range n).map fun q => decide (q < i ∧ 0 ≤ T.getD q (-1))
def tagL (T : List Int) (i : Nat) : List Nat := (List.range i).filter fun q => decide (0 ≤ T.getD q (-1))
theorem tagB_get {T : List Int} {n i q : Nat} : (tagB T n i)[q]? = some true ↔ q < n ∧ q < i ∧ 0 ≤ T.getD q (-1) := by
 unfold tagB
 rw [List.getElem?_map]
 by_cases h : q < n
 ·rw [List.getElem?_range h]; simp [h]
 ·rw [List.getElem?_eq_none (by simpa using h)]; simp [h]
theorem tagL_succ (T : List Int) (i : Nat) : tagL T (i + 1) = tagL T i ++ (if 0 ≤ T.getD i (-1) then [i] else []) := by
 unfold tagL
 rw [List.range_succ, List.filter_append]
 congr 1
 by_cases h : 0 ≤ T.getD i (-1)
 ·rw [if_pos h, List.filter_cons_of_pos (by simpa using h)]; rfl
 ·rw [if_neg h, List.filter_cons_of_neg (by simpa using h)]; rfl
theorem tagL_length (T : List Int) (i : Nat) : (tagL T i).length ≤ i := by
 have := List.length_filter_le (fun q => decide (0 ≤ T.getD q (-1))) (List.range i)
 rw [List.length_range] at this
 exact this
theorem tagB_succ {T : List Int} {n i : Nat} (hi : i < n) : tagB T n (i + 1) = if 0 ≤ T.getD i (-1) then (tagB T n i).set i true else tagB T n i := by
 by_cases h : 0 ≤ T.getD i (-1)
 ·rw [if_pos h]
  refine List.ext_getElem (by simp [tagB]) fun q h1 h2 => ?_
  rw [List.getElem_set]
  simp only [tagB, List.getElem_map, List.getElem_range]
  by_cases e : i = q
  ·subst e
   rw [if_pos rfl]
   exact decide_eq_true ⟨by omega, h⟩
  ·rw [if_neg e]
   exact decide_eq_decide.2 (and_congr_left fun _ => by omega)
 ·rw [if_neg h]
  unfold tagB
  apply List.map_congr_left
  intro q _
  by_cases e : i = q
  ·subst e
   exact decide_eq_decide.2 ⟨fun a => absurd a.2 h, fun a => absurd a.2 h⟩
  ·exact decide_eq_decide.2 (and_congr_left fun _ => by omega)
theorem tag_inv {n : Nat} {R : Int → List Int} {T : List Int} {bs : List (List Int)} : LiveInv n R (fun s => T.getD s.toNat (-1)) bs (tagB T n n) (tagL T n) (fun _ => False) (fun _ => True) := by
 refine ⟨by simp [tagB], fun q hq => ?_, fun q hq hT => ?_, fun q hq => ?_, fun q hq => ?_, fun q hq => hq.elim⟩
 ·obtain ⟨h1, h2, h3⟩ := tagB_get.1 hq
  exact .tag (by unfold In; omega) (by simpa using h3)
 ·exact tagB_get.2 ⟨hq, hq, by simpa using hT⟩
 ·unfold tagL at hq
  rw [List.mem_filter, List.mem_range] at hq
  exact tagB_get.2 ⟨hq.1, hq.1, by simpa using hq.2⟩
 ·left
  obtain ⟨h1, h2, h3⟩ := tagB_get.1 hq
  unfold tagL
  rw [List.mem_filter, List.mem_range]
  exact ⟨h1, by simpa using h3⟩
theorem tag_count (T : List Int) (n : Nat) : (tagL T n).length + (tagB T n n).count false = n := by
 have h1 : (tagL T n).length = (List.range n).countP fun q => decide (0 ≤ T.getD q (-1)) := by
  unfold tagL
  rw [List.countP_eq_length_filter]
 have h2 : (tagB T n n).count false = (List.range n).countP fun q => !decide (0 ≤ T.getD q (-1)) := by
  unfold tagB
  rw [List.count_eq_countP, List.countP_map]
  apply List.countP_congr
  intro q hq
  rw [List.mem_range] at hq
  simp [Function.comp, hq]
 have h3 := List.length_eq_countP_add_countP (fun q => decide (0 ≤ T.getD q (-1))) (l := List.range n)
 rw [List.length_range] at h3
 have h4 : (List.range n).countP (fun q => !decide (0 ≤ T.getD q (-1))) = (List.range n).countP (fun a => decide ¬(fun q => decide (0 ≤ T.getD q (-1))) a = true) := by
  apply List.countP_congr
  intro q _
  simp
 rw [h1, h2, h4]
 exact h3.symm
end Go.Proofs.YtpcbpgepjfenhaaGreatDoor
