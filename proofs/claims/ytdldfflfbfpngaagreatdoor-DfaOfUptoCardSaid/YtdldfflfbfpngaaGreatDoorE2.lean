/- Rounds. What is come to. -/
import Derived.Test.YtdldfflfbfpngaaGreatDoorE1
import Derived.Test.YtdldfflfbfpngaaGreatDoorP1
import Derived.Test.YtdldfflfbfpngaaGreatDoorD6
import Derived.Test.YtdldfflfbfpngaaGreatDoorP2
set_option linter.unusedVariables false
set_option linter.unusedSimpArgs false
namespace Go.Proofs.YtdldfflfbfpngaaGreatDoor
open Go
set_option maxHeartbeats 4000000
attribute [local irreducible] wops xcode wcode seqK blockK loopK finK wcall wop wstp Runs
theorem str_inj : ∀ a b : List UInt8, AV.str a = AV.str b → a = b := fun _ _ e => by injection e
theorem fill_set {α : Type} {a : List α} {z v : α} {n i : Nat} (ha : a.length = i) (hi : i < n) : (a ++ List.replicate (n - i) z).set i v = (a ++ [v]) ++ List.replicate (n - (i + 1)) z := by
 subst ha
 rw [List.set_append_right _ _ (Nat.le_refl _), Nat.sub_self, show n - a.length = (n - (a.length + 1)) + 1 by omega, List.replicate_succ, List.set_cons_zero, List.append_assoc]
 rfl
end Go.Proofs.YtdldfflfbfpngaaGreatDoor
set_option linter.unusedVariables false
set_option linter.unusedSimpArgs false
namespace Go.Proofs.YtdldfflfbfpngaaGreatDoor
open Go
set_option maxHeartbeats 4000000
def IsApp (h : Heap) (v : AV) (e n : Nat) (cs : List AV) : Prop :=
 (v = .rd n cs true ∧ cs.length = n * e) ∨ ∃ id g, v = .own id g e 0 n none ∧ h.get id = some (.cells g cs) ∧ 1 ≤ g ∧ cs.length = n * e
theorem IsRow.app {h v e n cs} (hr : IsRow h v e n cs) : IsApp h v e n cs := by
 rcases hr with ⟨rfl, rfl, rfl⟩ | h1
 ·exact .inl ⟨rfl, by simp⟩
 ·exact .inr h1
theorem IsApp.lit {h : Heap} {e n cs} (hl : cs.length = n * e) : IsApp h (.rd n cs true) e n cs := .inl ⟨rfl, hl⟩
theorem IsApp.length {h v e n cs} (hr : IsApp h v e n cs) : cs.length = n * e := by
 rcases hr with ⟨_, h⟩ | ⟨_, _, _, _, _, h⟩ <;> exact h
theorem IsApp.keep {h h' : Heap} {v e n cs} (hr : IsApp h v e n cs) (hk : ∀ id, v.rowId = some id → h'.get id = h.get id) : IsApp h' v e n cs := by
 rcases hr with h1 | ⟨id, g, rfl, h2, h3, h4⟩
 ·exact .inl h1
 ·exact .inr ⟨id, g, rfl, (hk id rfl).trans h2, h3, h4⟩
theorem IsApp.there {h : Heap} {v e n cs} (hr : IsApp h v e n cs) {id : Nat} (hi : v.rowId = some id) : h.get id ≠ none := by
 rcases hr with ⟨rfl, _⟩ | ⟨id', g, rfl, h2, _⟩
 ·cases hi
 ·cases hi
  rw [h2]; simp
theorem IsApp.notTup {h : Heap} {v e n cs} (hr : IsApp h v e n cs) : v.isTup = false := by
 rcases hr with ⟨rfl, _⟩ | ⟨id', g, rfl, _⟩ <;> rfl
theorem IsApp.new {h : Heap} {v e n cs} (hr : IsApp h v e n cs) {id : Nat} {o : DObj} (hid : h.get id = none) : IsApp (h.set id o) v e n cs :=
 hr.keep fun k hk => Heap.get_set_ne _ _ (fun e => hr.there hk (e ▸ hid))
theorem srcCells_app {h : Heap} {v e n cs} (hr : IsApp h v e n cs) : srcCells h e v = some (n, cs) := by
 rcases hr with ⟨rfl, h1⟩ | ⟨id, g, rfl, h2, h3, h4⟩
 ·simp [srcCells, h1]
 ·simp only [srcCells, h2]
  rw [if_pos ⟨trivial, trivial, by rw [Nat.zero_add, h4]; exact Nat.le_refl _⟩, Nat.zero_mul, List.drop_zero, ← h4, List.take_length]
def PtrTo (h : Heap) (p a : AV) : Prop := p = .rp [a] ∨ ∃ id g o cs, p = .ptr id g o ∧ h.get id = some (.cells g cs) ∧ cs[o]? = some a
section
variable {F : FnSem} {r : List DOper} {Q : Env → Heap → Prop} {env : Env} {h : Heap} {d : Nat} {x y z c : DOpd}
theorem st_append_app {e n m : Nat} {v w : AV} {cs new : List AV} (hx : ev env x = v) (hrow : IsApp h v e n cs) (hy : ev env y = w) (hs : srcCells h e w = some (m, new)) (hm : new.length = m * e) (hle : n + m ≤ 4294967296)
  (k : ∀ v' h', IsApp h' v' e (n + m) (cs ++ new) → (∀ id, h.get id ≠ none → v.rowId ≠ some id → h'.get id = h.get id) → (∀ id, v'.rowId = some id → v.rowId = some id ∨ h.get id = none) → wops F r Q (env.put d v') h') : wops F (⟨some d, .append e x y, none⟩ :: r) Q env h := by
 have hmax : maxRow = 4294967296 := rfl
 rcases hrow with ⟨rfl, hl⟩ | hrow
 ·simp only [wops_go, wop_append, effRes, hx, hy, hs, Option.bind_some, putDst_some]
  rw [if_pos ⟨hl, by omega⟩]
  by_cases h0 : m = 0
  ·subst h0
   have : new = [] := List.eq_nil_of_length_eq_zero (by simpa using hm)
   subst this
   simp only [if_true, wres_val]
   exact k _ _ (.inl ⟨by simp, by simpa using hl⟩) (fun _ _ _ => rfl) (fun _ h => by cases h)
  ·rw [if_neg h0]
   simp only [if_true, wres_new]
   intro id hid
   exact k _ _ (.inr ⟨id, 1, rfl, Heap.get_set_self _ _ _, Nat.le_refl _, by rw [List.length_append, hl, hm, Nat.add_mul]⟩) (fun j hj _ => Heap.get_set_ne _ _ (fun e => hj (e ▸ hid))) (fun j hj => by cases hj; exact .inr hid)
 ·exact st_append_src hx (.inr hrow) hy hs hm hle fun v' h' k1 k2 k3 => k v' h' k1.app k2 k3
theorem st_len_app {h0 : Heap} {v e n cs} (hx : ev env x = v) (hrow : IsApp h0 v e n cs) (k : wops F r Q (env.put d (.int .i64 n)) h) : wops F (⟨some d, .len 0 x, none⟩ :: r) Q env h := by
 rcases hrow with ⟨rfl, h1⟩ | ⟨id, g, rfl, _⟩
 ·exact st_len_rd hx k
 ·exact st_len_own hx k
theorem st_index_app {v : AV} {n : Nat} {cs : List AV} {k : IntKind} {j : Int} {m : Nat} {a : AV} (hx : ev env x = v) (hrow : IsApp h v 1 n cs) (hy : ev env y = .int k j) (hj : j = (m : Int)) (ha : cs[m]? = some a) (k1 : ∀ p, PtrTo h p a → wops F r Q (env.put d p) h) : wops F (⟨some d, .indexAddr 1 x y, none⟩ :: r) Q env h := by
 have hm := lt_of_getElem? ha
 have hl := hrow.length
 subst hj
 rcases hrow with ⟨rfl, _⟩ | ⟨id, g, rfl, h1, h2, h3⟩
 ·refine st_index_rd hx hy (by omega) (by omega) (cs' := [a]) ?_ (k1 _ (.inl rfl))
  obtain ⟨h4, rfl⟩ := List.getElem?_eq_some_iff.1 ha
  rw [Int.toNat_natCast, Nat.mul_one, List.drop_eq_getElem_cons h4]
  rfl
 ·exact st_index_own hx hy (by omega) (by omega) (k1 _ (.inr ⟨id, g, _, cs, rfl, h1, by simpa using ha⟩))
theorem st_load_to {p a : AV} (hx : ev env x = p) (hp : PtrTo h p a) (k : wops F r Q (env.put d a) h) : wops F (⟨some d, .load false 1 false x, none⟩ :: r) Q env h := by
 rcases hp with rfl | ⟨id, g, o, cs, rfl, h1, h2⟩
 ·exact st_load_r hx (by simp) rfl k
 ·have := lt_of_getElem? h2
  exact st_load_p hx h1 (by simp) (by omega) (by simp [part, List.getD_eq_getElem?_getD, h2]) k
end
attribute [local irreducible] wops xcode wcode seqK blockK loopK finK wcall wop wstp Runs
end Go.Proofs.YtdldfflfbfpngaaGreatDoor
