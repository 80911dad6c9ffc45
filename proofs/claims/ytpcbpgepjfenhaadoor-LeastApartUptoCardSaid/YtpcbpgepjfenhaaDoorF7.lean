/- The statements: apart. -/
import Derived.Test.YtpcbpgepjfenhaaDoorF4
import Derived.Test.YtpcbpgepjfenhaaDoorP2
set_option linter.unusedVariables false
set_option linter.unusedSimpArgs false
namespace Go.Proofs.YtpcbpgepjfenhaaDoor
open Go
set_option maxHeartbeats 4000000

/-! ### Plainly -/
def Qp (d : PD) : Nat → Int → Int → Prop
  | 0, _, _ => True
  | r + 1, s, t => Qr d r s t
theorem Qr_of {d : PD} {r : Nat} {s t : Int} (h1 : d.tag s = d.tag t) (h2 : ∀ k, Opt (Qp d r) (col d.row s k) (col d.row t k)) : Qr d r s t := by
  cases r with
  | zero => exact h1
  | succ r => exact ⟨h1, h2⟩
structure Un0 (d : PD) (r : Nat) (U : List Int) : Prop where
  len : U.length = d.n * d.n
  far : ∀ a b : Nat, a < d.n → b < d.n → U.getD (a * d.n + b) 0 ≠ 1 → Qp d r a b
structure Un1 (d : PD) (r i j : Nat) (U : List Int) : Prop where
  un : Un0 d r U
  near : ∀ a b : Nat, a < d.n → b < d.n → (a < i ∨ a = i ∧ b < j) → U.getD (a * d.n + b) 0 ≠ 1 → Qr d r a b
structure Un2 (d : PD) (r i j p : Nat) (U : List Int) : Prop where
  un : Un1 d r i j U
  at_ : U.getD (i * d.n + j) 0 ≠ 1 → d.tag i = d.tag j ∧ ∀ k, k < p → Opt (Qp d r) (col d.row i k) (col d.row j k)
theorem cell_lt {n i j : Nat} (hi : i < n) (hj : j < n) : i * n + j < n * n := by
  have : (i + 1) * n ≤ n * n := Nat.mul_le_mul_right n hi
  rw [Nat.add_mul, Nat.one_mul] at this
  omega
theorem getD_set1 {U : List Int} {k m : Nat} (hk : k < U.length) (h : (U.set k 1).getD m 0 ≠ 1) : m ≠ k ∧ U.getD m 0 ≠ 1 := by
  have hmk : m ≠ k := by
    rintro rfl
    exact h (by simp [List.getD_eq_getElem?_getD, hk])
  refine ⟨hmk, ?_⟩
  simpa [List.getD_eq_getElem?_getD, List.getElem?_set_ne (Ne.symm hmk)] using h
theorem Un0.set {d : PD} {r k : Nat} {U : List Int} (h : Un0 d r U) (hk : k < U.length) : Un0 d r (U.set k 1) :=
  ⟨by rw [List.length_set]; exact h.len, fun a b ha hb hu => h.far a b ha hb (getD_set1 hk hu).2⟩
theorem Un1.set {d : PD} {r i j k : Nat} {U : List Int} (h : Un1 d r i j U) (hk : k < U.length) : Un1 d r i j (U.set k 1) :=
  ⟨h.un.set hk, fun a b ha hb hab hu => h.near a b ha hb hab (getD_set1 hk hu).2⟩
theorem Un0.start {d : PD} : Un0 d 0 (List.replicate (d.n * d.n) 0) := ⟨by simp, fun _ _ _ _ _ => trivial⟩
theorem Un1.start {d : PD} {r : Nat} {U : List Int} (h : Un0 d r U) : Un1 d r 0 0 U := ⟨h, fun a b _ _ hab => by omega⟩
theorem Un1.row {d : PD} {r i : Nat} {U : List Int} (h : Un1 d r i d.n U) : Un1 d r (i + 1) 0 U := ⟨h.un, fun a b ha hb hab => h.near a b ha hb (by omega)⟩
theorem Un1.done {d : PD} {r : Nat} {U : List Int} (h : Un1 d r d.n 0 U) : Un0 d (r + 1) U := ⟨h.un.len, fun a b ha hb => h.near a b ha hb (.inl ha)⟩
theorem Un1.len {d : PD} {r i j : Nat} {U : List Int} (h : Un1 d r i j U) : U.length = d.n * d.n := h.un.len
theorem Un2.differ {d : PD} {r i j : Nat} {U : List Int} (h : Un1 d r i j U) (hi : i < d.n) (hj : j < d.n) : Un2 d r i j 0 (U.set (i * d.n + j) 1) := by
  have hk : i * d.n + j < U.length := by rw [h.len]; exact cell_lt hi hj
  exact ⟨h.set hk, fun hu => absurd rfl (getD_set1 hk hu).1⟩
theorem Un2.same {d : PD} {r i j : Nat} {U : List Int} (h : Un1 d r i j U) (ht : d.tag i = d.tag j) : Un2 d r i j 0 U := ⟨h, fun _ => ⟨ht, fun k hk => by omega⟩⟩
theorem Un2.mark {d : PD} {r i j p q : Nat} {U : List Int} (h : Un2 d r i j p U) (hi : i < d.n) (hj : j < d.n) : Un2 d r i j q (U.set (i * d.n + j) 1) := by
  have hk : i * d.n + j < U.length := by rw [h.un.len]; exact cell_lt hi hj
  exact ⟨h.un.set hk, fun hu => absurd rfl (getD_set1 hk hu).1⟩
theorem Un2.next {d : PD} {r i j p : Nat} {U : List Int} (h : Un2 d r i j p U) (ho : Opt (Qp d r) (col d.row i p) (col d.row j p)) : Un2 d r i j (p + 1) U := by
  refine ⟨h.un, fun hu => ?_⟩
  obtain ⟨h1, h2⟩ := h.at_ hu
  refine ⟨h1, fun k hk => ?_⟩
  by_cases e : k = p
  · subst e; exact ho
  · exact h2 k (by omega)
theorem Un2.done {d : PD} (hd : d.Ok) {r i j : Nat} {U : List Int} (h : Un2 d r i j d.p U) (hi : i < d.n) (hj : j < d.n) : Un1 d r i (j + 1) U := by
  refine ⟨h.un.un, fun a b ha hb hab hu => ?_⟩
  by_cases e : a = i ∧ b = j
  · obtain ⟨rfl, rfl⟩ := e
    obtain ⟨h1, h2⟩ := h.at_ hu
    refine Qr_of h1 fun k => ?_
    by_cases hk : k < d.p
    · exact h2 k hk
    · have l1 := hd.tab.len (a : Int) (by unfold In; omega)
      have l2 := hd.tab.len (b : Int) (by unfold In; omega)
      exact .inl ⟨getD_out (by omega), getD_out (by omega)⟩
  · exact h.un.near a b ha hb (by omega) hu
theorem Un0.last {d x : PD} (hl : IsLeast d x) (hd : d.Ok) (hx : x.Ok) {U : List Int} (h : Un0 x (x.n + 1) U) {i j : Nat} (hi : i < x.n) (hj : j < x.n) (hij : i ≠ j) : U.getD (i * x.n + j) 0 = 1 := by
  apply Classical.byContradiction
  intro hu
  have hq : Qr x x.n i j := h.far i j hi hj hu
  obtain ⟨B, hB, hb⟩ := moore hx hq
  have := hl.apart hd hB (by unfold In; omega) (by unfold In; omega) hb
  omega

structure UnAt (h : Heap) (ix iu : Nat) (x : Dfa) (U : List Int) : Prop where
  box : h.get ix = some (.cells 0 x.av)
  arr : h.get iu = some (.cells 1 (U.map (.int .i64)))
theorem UnAt.ne {h : Heap} {ix iu : Nat} {x : Dfa} {U : List Int} (hA : UnAt h ix iu x U) : ix ≠ iu := by
  rintro rfl
  have := hA.box
  rw [hA.arr] at this
  injection this with this
  injection this with this
  cases this
theorem UnAt.put {h : Heap} {ix iu : Nat} {x : Dfa} {U : List Int} (hA : UnAt h ix iu x U) (V : List Int) : UnAt (h.set iu (.cells 1 (V.map (.int .i64)))) ix iu x V :=
  ⟨by rw [Heap.get_set_ne _ _ hA.ne]; exact hA.box, Heap.get_set_self _ _ _⟩
attribute [local irreducible] wops xcode wcode seqK blockK loopK finK wcall wop wstp Runs

set_option maxRecDepth 100000 in
theorem lapart_ok {Φ : Lib} (L : LibC3 Φ) (L1 : C1Lib Φ) (L2 : C2Lib Φ) (S : SortLib Φ) (G : GrowLib Φ) (J : JoinLib Φ) (c : Rw (Rw Int)) (k : Int) (next tags : Rw Int) (hm : MakeIn c k next tags) : Pure Φ 154 [c.mv u16row, .int .u8 k, i8row next, i8row tags] (.bool true) := by
  have hkn := known11_ok L L1 S G J
  refine runs_of (fun o => o == some 58) rfl L.f154 ?_
  repeat' first | refine st_nil ?_ | (show wops _ _ _ _ _; first | (show wops _ (⟨_, .mv _, none⟩ :: _) _ _ _; refine st_mv rx_ ?_)) | (show wops _ _ _ _ _; first | (show wops _ (⟨_, .call _ _ _, none⟩ :: _) _ _ _; refine st_call rfl nt_ ?_)) | (show xcode _ _ _ _ _ _; first | refine sx_seq ?_ | refine sx_ops rfl ?_) | refine sk_norm ?_
  refine make_call L L2 hm ?_
  intro d hd
  repeat' first | (show wops _ _ _ _ _; first | (show wops _ (⟨_, .call _ _ _, none⟩ :: _) _ _ _; refine st_call rfl nt_ ?_))
  refine least_good L L1 S G J d hd.wide.fits hd.range hd.ok ?_
  intro x hx
  have hxm := hd.least hx
  have hok := hxm.ok
  have hpl : x.plain.p = x.parts.l.length := by simp [Dfa.plain, plainS, PD.p]
  have hp2 := hok.p1
  have htab := hok.tab
  have hn2 := hok.n2
  have hn2 : x.tags.l.length ≤ 2000 := hn2
  have hrl : x.next.l.length = x.tags.l.length := by
    have := hok.nl
    simpa [Dfa.plain, plainI] using this
  have hnn : (x.tags.l.length : Int) * (x.tags.l.length : Int) ≤ 4000000 := by
    have := Nat.mul_le_mul hn2 hn2
    omega
  have hnn0 : 0 ≤ (x.tags.l.length : Int) * (x.tags.l.length : Int) := by
    have := Nat.zero_le (x.tags.l.length * x.tags.l.length)
    omega
  have hnt : ((x.tags.l.length : Int) * (x.tags.l.length : Int)).toNat = x.tags.l.length * x.tags.l.length := by
    rw [← Int.natCast_mul, Int.toNat_natCast]
  repeat' first | refine st_nil ?_ | (show wops _ _ _ _ _; first | (show wops _ (⟨_, .mv _, none⟩ :: _) _ _ _; refine st_mv rx_ ?_) | (show wops _ (⟨_, .load _ _ _ (.tmp _), none⟩ :: _) _ _ _; refine st_load_c rx_ ?_) | (show wops _ (⟨_, .bin _ (.tmp _) _, none⟩ :: _) _ _ _; refine st_bin_c1 rx_ ?_) | (show wops _ (⟨_, .bin _ _ (.tmp _), none⟩ :: _) _ _ _; refine st_bin_c2 rx_ ?_) | (show wops _ (⟨_, .store _ (.tmp _) _, none⟩ :: _) _ _ _; refine st_store_c1 rx_ ?_) | (show wops _ (⟨_, .store _ _ (.tmp _), none⟩ :: _) _ _ _; refine st_store_c2 rx_ ?_) | (show wops _ (⟨_, .len _ (.tmp _), none⟩ :: _) _ _ _; refine st_len_c rx_ ?_) | (show wops _ (⟨_, .fieldAddr _ (.tmp _), none⟩ :: _) _ _ _; refine st_field_c rx_ ?_)) | (show wops _ _ _ _ _; first | (show wops _ (⟨_, _, some _⟩ :: _) _ _ _; refine st_gog rfl ?_) | (show wops _ (⟨_, .load _ _ _ _, none⟩ :: _) _ _ _; refine st_load_p rfl hg_ (by simp) (by first | (simp; done) | (simp; omega)) pv_ ?_) | (show wops _ (⟨_, .bin _ _ _, none⟩ :: _) _ _ _; first | (refine st_neq rfl rfl rfl ?_ ?_ <;> (intro hc; try (exfalso; omega))) | refine st_mul rfl rfl rfl (by omega) (by omega) ?_) | (show wops _ (⟨_, .fieldAddr _ _, none⟩ :: _) _ _ _; refine st_field_p rfl (Nat.zero_add _) ?_) | (show wops _ (⟨_, .len _ _, none⟩ :: _) _ _ _; refine st_len_rd rfl ?_) | (show wops _ (⟨_, .pick _ _ _, none⟩ :: _) _ _ _; refine st_pick_f (v := AV.bool _) rfl rfl ?_) | (show wops _ (⟨_, .call _ _ _, none⟩ :: _) _ _ _; refine st_call rfl nt_ ?_) | (show wops _ (⟨_, .alloc _, none⟩ :: _) _ _ _; (refine st_alloc ?_; intro id hid; try simp only [Heap.set_none] at hid)) | (show wops _ (⟨_, .store _ _ _, none⟩ :: _) _ _ _; refine st_store_s (cs' := [AV.rd _ _ _, AV.rd _ _ _, AV.rd _ _ _]) rfl rfl rfl rfl (by first | (simp; done) | (simp; omega)) rfl ?_) | (show wops _ (⟨_, .un _ _, none⟩ :: _) _ _ _; refine st_not (b := true) rfl ?_) | (show wops _ (⟨_, .mkslice _ _ _, none⟩ :: _) _ _ _; (refine st_mkslice rfl rfl (by omega) (by omega) ?_; intro id hid; try simp only [Heap.set_none] at hid)) | (show wops _ (⟨_, .extract _ _, none⟩ :: _) _ _ _; refine st_extract rfl rfl ?_)) | (show xcode _ _ _ _ _ _; first | refine sx_seq ?_ | refine sx_ops rfl ?_ | refine sx_skip ?_ | refine sx_block ?_ | refine sx_cond_f rfl ?_) | refine sk_norm ?_ | refine call_pure (by assumption) fz_ fz_ ?_
  rename_i i9 hi9
  obtain ⟨iu, rfl⟩ : ∃ y, y = id := ⟨_, rfl⟩
  have hiu := hid
  rw [hnt]
  refine sx_for (x.tags.l.length + 1) (fun r env h' => ∃ U, UnAt h' i9 iu x U ∧ Un0 x.plain r U ∧ env.has [(9, .ptr i9 0 0), (11, .int .i64 x.tags.l.length), (12, .own iu 1 1 0 (x.tags.l.length * x.tags.l.length) none), (13, .int .i64 r)]) ⟨List.replicate (x.tags.l.length * x.tags.l.length) 0, ⟨?_, ?_⟩, Un0.start, hh_⟩ ?_
  · first
      | exact Heap.get_set_self _ _ _
      | (rw [Heap.get_set_ne _ _ hiu.1]; exact Heap.get_set_self _ _ _)
      | (rw [Heap.get_set_ne _ _ hiu.1.symm]; exact Heap.get_set_self _ _ _)
  · rw [Heap.get_set_self, List.map_replicate]
    simp
  rintro r env h' hr ⟨U, hA, hU, he⟩
  have hbox := hA.box
  have harr := hA.arr
  obtain ⟨env, rfl⟩ := he.ex
  clear he
  by_cases hr2 : r < x.tags.l.length + 1
  · repeat' first | refine st_nil ?_ | (show wops _ _ _ _ _; first | (show wops _ (⟨_, .mv _, none⟩ :: _) _ _ _; refine st_mv rx_ ?_) | (show wops _ (⟨_, .bin _ (.tmp _) _, none⟩ :: _) _ _ _; refine st_bin_c1 rx_ ?_) | (show wops _ (⟨_, .bin _ _ (.tmp _), none⟩ :: _) _ _ _; refine st_bin_c2 rx_ ?_)) | (show wops _ _ _ _ _; first | (show wops _ (⟨_, .bin _ _ _, none⟩ :: _) _ _ _; (refine st_leq rfl rfl rfl ?_ ?_ <;> (intro hc; try (exfalso; omega))))) | (show xcode _ _ _ _ _ _; first | refine sx_seq ?_ | refine sx_ops rfl ?_ | refine sx_skip ?_ | refine sx_block ?_ | refine sx_cond_t rfl ?_) | refine sk_norm ?_
    refine sx_for x.tags.l.length (fun i env h' => ∃ U, UnAt h' i9 iu x U ∧ Un1 x.plain r i 0 U ∧ env.has [(9, .ptr i9 0 0), (11, .int .i64 x.tags.l.length), (12, .own iu 1 1 0 (x.tags.l.length * x.tags.l.length) none), (13, .int .i64 r), (14, .int .i64 i)]) ⟨U, hA, .start hU, hh_⟩ ?_
    clear hbox harr hA hU
    rintro i env h' hi ⟨U, hA, hU, he⟩
    have hbox := hA.box
    have harr := hA.arr
    obtain ⟨env, rfl⟩ := he.ex
    clear he
    by_cases hi2 : i < x.tags.l.length
    · repeat' first | refine st_nil ?_ | (show wops _ _ _ _ _; first | (show wops _ (⟨_, .mv _, none⟩ :: _) _ _ _; refine st_mv rx_ ?_) | (show wops _ (⟨_, .bin _ (.tmp _) _, none⟩ :: _) _ _ _; refine st_bin_c1 rx_ ?_) | (show wops _ (⟨_, .bin _ _ (.tmp _), none⟩ :: _) _ _ _; refine st_bin_c2 rx_ ?_)) | (show wops _ _ _ _ _; first | (show wops _ (⟨_, .bin _ _ _, none⟩ :: _) _ _ _; (refine st_lss rfl rfl rfl ?_ ?_ <;> (intro hc; try (exfalso; omega))))) | (show xcode _ _ _ _ _ _; first | refine sx_seq ?_ | refine sx_ops rfl ?_ | refine sx_skip ?_ | refine sx_block ?_ | refine sx_cond_t rfl ?_) | refine sk_norm ?_
      refine sx_for x.tags.l.length (fun j env h' => ∃ U, UnAt h' i9 iu x U ∧ Un1 x.plain r i j U ∧ env.has [(9, .ptr i9 0 0), (11, .int .i64 x.tags.l.length), (12, .own iu 1 1 0 (x.tags.l.length * x.tags.l.length) none), (13, .int .i64 r), (14, .int .i64 i), (15, .int .i64 j)]) ⟨U, hA, hU, hh_⟩ ?_
      clear hbox harr hA hU
      rintro j env h' hj ⟨U, hA, hU, he⟩
      have hbox := hA.box
      have harr := hA.arr
      obtain ⟨env, rfl⟩ := he.ex
      clear he
      by_cases hj2 : j < x.tags.l.length
      · have hij := cell_lt hi2 hj2
        have hij1 : 0 ≤ (i : Int) * (x.tags.l.length : Int) := by
          have := Nat.zero_le (i * x.tags.l.length)
          omega
        have hij2 : (i : Int) * (x.tags.l.length : Int) + (j : Int) < (x.tags.l.length : Int) * (x.tags.l.length : Int) := by omega
        have hijt : ((i : Int) * (x.tags.l.length : Int) + (j : Int)).toNat = i * x.tags.l.length + j := by omega
        obtain ⟨ti, hti⟩ := ex_get hi2
        obtain ⟨tj, htj⟩ := ex_get hj2
        have eti : x.plain.tag i = ti := by simp [PD.tag, Dfa.plain, List.getD_eq_getElem?_getD, hti]
        have etj : x.plain.tag j = tj := by simp [PD.tag, Dfa.plain, List.getD_eq_getElem?_getD, htj]
        repeat' first | refine st_nil ?_ | (show wops _ _ _ _ _; first | (show wops _ (⟨_, .mv _, none⟩ :: _) _ _ _; refine st_mv rx_ ?_) | (show wops _ (⟨_, .bin _ (.tmp _) _, none⟩ :: _) _ _ _; refine st_bin_c1 rx_ ?_) | (show wops _ (⟨_, .bin _ _ (.tmp _), none⟩ :: _) _ _ _; refine st_bin_c2 rx_ ?_)) | (show wops _ _ _ _ _; first | (show wops _ (⟨_, .bin _ _ _, none⟩ :: _) _ _ _; (refine st_lss rfl rfl rfl ?_ ?_ <;> (intro hc; try (exfalso; omega))))) | (show xcode _ _ _ _ _ _; first | refine sx_seq ?_ | refine sx_ops rfl ?_ | refine sx_skip ?_ | refine sx_block ?_ | refine sx_cond_t rfl ?_) | refine sk_norm ?_
        refine sx_mid2 (fun e h2 => ∃ U, UnAt h2 i9 iu x U ∧ Un2 x.plain r i j 0 U ∧ e.has [(9, .ptr i9 0 0), (11, .int .i64 x.tags.l.length), (12, .own iu 1 1 0 (x.tags.l.length * x.tags.l.length) none), (13, .int .i64 r), (14, .int .i64 i), (15, .int .i64 j)]) ?_ ?_
        · refine sx_seq ?_
          refine sx_opsZ rfl ?_
          repeat' first | refine st_nil ?_ | (show wops _ _ _ _ _; first | (show wops _ (⟨_, .mv _, none⟩ :: _) _ _ _; refine st_mv rx_ ?_) | (show wops _ (⟨_, .load _ _ _ (.tmp _), none⟩ :: _) _ _ _; refine st_load_c rx_ ?_) | (show wops _ (⟨_, .bin _ (.tmp _) _, none⟩ :: _) _ _ _; refine st_bin_c1 rx_ ?_) | (show wops _ (⟨_, .bin _ _ (.tmp _), none⟩ :: _) _ _ _; refine st_bin_c2 rx_ ?_) | (show wops _ (⟨_, .indexAddr _ (.tmp _) _, none⟩ :: _) _ _ _; refine st_index_c1 rx_ ?_) | (show wops _ (⟨_, .indexAddr _ _ (.tmp _), none⟩ :: _) _ _ _; refine st_index_c2 rx_ ?_) | (show wops _ (⟨_, .store _ (.tmp _) _, none⟩ :: _) _ _ _; refine st_store_c1 rx_ ?_) | (show wops _ (⟨_, .fieldAddr _ (.tmp _), none⟩ :: _) _ _ _; refine st_field_c rx_ ?_)) | (show wops _ _ _ _ _; first | (show wops _ (⟨_, .load _ _ _ _, none⟩ :: _) _ _ _; first | refine st_load_r rfl (by first | (simp; done) | (simp; omega)) pv_ ?_ | refine st_load_p rfl hq_ (by simp) (by first | (simp; done) | (simp; omega)) pv_ ?_) | (show wops _ (⟨_, .bin _ _ _, none⟩ :: _) _ _ _; first | refine st_add rfl rfl rfl (by omega) (by omega) ?_ | (refine st_neq rfl rfl rfl ?_ ?_ <;> (intro hc; try (exfalso; omega))) | refine st_mul rfl rfl rfl (by omega) (by omega) ?_) | (show wops _ (⟨_, .fieldAddr _ _, none⟩ :: _) _ _ _; refine st_field_p rfl (Nat.zero_add _) ?_) | (show wops _ (⟨_, .indexAddr _ _ _, none⟩ :: _) _ _ _; first | refine st_index_map' rfl rfl hti (by omega) rfl ?_ | refine st_index_map' rfl rfl htj (by omega) rfl ?_ | refine st_index_own rfl rfl (by omega) (by omega) ?_)) | (show xcode _ _ _ _ _ _; first | refine sx_ops rfl ?_ | refine sx_skip ?_ | refine sx_cond_t rfl ?_ | refine sx_cond_f rfl ?_) | refine sk_norm ?_
          · refine st_store1 (f := .int .i64) (l := U) (a' := 1) (m := i * x.tags.l.length + j) rfl rfl harr (by omega) (by rw [hU.len]; exact hij) rfl rfl rfl ?_
            repeat' first | refine st_nil ?_ | refine sk_norm ?_
            exact ⟨_, hA.put _, Un2.differ hU hi2 hj2, hh_⟩
          · exact ⟨U, hA, Un2.same hU (by rw [eti, etj]; omega), hh_⟩
        clear hbox harr hA hU
        rintro env h' ⟨U, hA, hU, he⟩
        have hbox := hA.box
        have harr := hA.arr
        obtain ⟨env, rfl⟩ := he.ex
        clear he
        repeat' first | refine st_nil ?_ | (show wops _ _ _ _ _; first | (show wops _ (⟨_, .mv _, none⟩ :: _) _ _ _; refine st_mv rx_ ?_)) | (show xcode _ _ _ _ _ _; first | refine sx_seq ?_ | refine sx_ops rfl ?_ | refine sx_block ?_) | refine sk_norm ?_
        refine sx_for x.parts.l.length (fun p env h' => ∃ U, UnAt h' i9 iu x U ∧ Un2 x.plain r i j p U ∧ env.has [(9, .ptr i9 0 0), (11, .int .i64 x.tags.l.length), (12, .own iu 1 1 0 (x.tags.l.length * x.tags.l.length) none), (13, .int .i64 r), (14, .int .i64 i), (15, .int .i64 j), (16, .int .i64 p)]) ⟨U, hA, hU, hh_⟩ ?_
        clear hbox harr hA hU
        rintro p env h' hp ⟨U, hA, hU, he⟩
        have hbox := hA.box
        have harr := hA.arr
        obtain ⟨env, rfl⟩ := he.ex
        clear he
        by_cases hp3 : p < x.parts.l.length
        · obtain ⟨ri, hri⟩ := ex_get (l := x.next.l) (i := i) (by omega)
          obtain ⟨rj, hrj⟩ := ex_get (l := x.next.l) (i := j) (by omega)
          have hrowi : x.plain.row i = ri.l := by simp [PD.row, Dfa.plain, plainI, List.getD_eq_getElem?_getD, hri]
          have hrowj : x.plain.row j = rj.l := by simp [PD.row, Dfa.plain, plainI, List.getD_eq_getElem?_getD, hrj]
          have hini : In x.plain.n (i : Int) := by show 0 ≤ (i : Int) ∧ (i : Int) < (x.tags.l.length : Int); omega
          have hinj : In x.plain.n (j : Int) := by show 0 ≤ (j : Int) ∧ (j : Int) < (x.tags.l.length : Int); omega
          have hli : ri.l.length = x.parts.l.length := by rw [← hrowi, ← hpl]; exact htab.len _ hini
          have hlj : rj.l.length = x.parts.l.length := by rw [← hrowj, ← hpl]; exact htab.len _ hinj
          obtain ⟨a, ha⟩ := ex_get (l := ri.l) (i := p) (by omega)
          obtain ⟨b, hb⟩ := ex_get (l := rj.l) (i := p) (by omega)
          have cola : col x.plain.row i p = a := by simp [col, hrowi, List.getD_eq_getElem?_getD, ha]
          have colb : col x.plain.row j p = b := by simp [col, hrowj, List.getD_eq_getElem?_getD, hb]
          have hao : a = -1 ∨ 0 ≤ a ∧ a < (x.tags.l.length : Int) := cola ▸ htab.col hini p
          have hbo : b = -1 ∨ 0 ≤ b ∧ b < (x.tags.l.length : Int) := colb ▸ htab.col hinj p
          rcases hao with rfl | ⟨ha1, ha2⟩
          · rcases hbo with rfl | ⟨hb1, hb2⟩
            · repeat' first | refine st_nil ?_ | (show wops _ _ _ _ _; first | (show wops _ (⟨_, .mv _, none⟩ :: _) _ _ _; refine st_mv rx_ ?_) | (show wops _ (⟨_, .load _ _ _ (.tmp _), none⟩ :: _) _ _ _; refine st_load_c rx_ ?_) | (show wops _ (⟨_, .bin _ (.tmp _) _, none⟩ :: _) _ _ _; refine st_bin_c1 rx_ ?_) | (show wops _ (⟨_, .bin _ _ (.tmp _), none⟩ :: _) _ _ _; refine st_bin_c2 rx_ ?_) | (show wops _ (⟨_, .indexAddr _ (.tmp _) _, none⟩ :: _) _ _ _; refine st_index_c1 rx_ ?_) | (show wops _ (⟨_, .indexAddr _ _ (.tmp _), none⟩ :: _) _ _ _; refine st_index_c2 rx_ ?_) | (show wops _ (⟨_, .len _ (.tmp _), none⟩ :: _) _ _ _; refine st_len_c rx_ ?_) | (show wops _ (⟨_, .fieldAddr _ (.tmp _), none⟩ :: _) _ _ _; refine st_field_c rx_ ?_)) | (show wops _ _ _ _ _; first | (show wops _ (⟨_, _, some _⟩ :: _) _ _ _; first | refine st_skipg rfl ?_ | refine st_gog rfl ?_) | (show wops _ (⟨_, .load _ _ _ _, none⟩ :: _) _ _ _; first | refine st_load_r rfl (by first | (simp; done) | (simp; omega)) pv_ ?_ | refine st_load_p rfl hq_ (by simp) (by first | (simp; done) | (simp; omega)) pv_ ?_) | (show wops _ (⟨_, .bin _ _ _, none⟩ :: _) _ _ _; first | refine st_add rfl rfl rfl (by omega) (by omega) ?_ | (refine st_lss rfl rfl rfl ?_ ?_ <;> (intro hc; try (exfalso; omega))) | (refine st_geq rfl rfl rfl ?_ ?_ <;> (intro hc; try (exfalso; omega)))) | (show wops _ (⟨_, .fieldAddr _ _, none⟩ :: _) _ _ _; refine st_field_p rfl (Nat.zero_add _) ?_) | (show wops _ (⟨_, .indexAddr _ _ _, none⟩ :: _) _ _ _; first | refine st_index_map' rfl rfl hri (by omega) rfl ?_ | refine st_index_map' rfl rfl hrj (by omega) rfl ?_ | refine st_index_map' rfl rfl ha (by omega) rfl ?_ | refine st_index_map' rfl rfl hb (by omega) rfl ?_) | (show wops _ (⟨_, .len _ _, none⟩ :: _) _ _ _; refine st_len_rd rfl ?_) | (show wops _ (⟨_, .pick _ _ _, none⟩ :: _) _ _ _; refine st_pick_f (v := AV.bool _) rfl rfl ?_)) | (show xcode _ _ _ _ _ _; first | refine sx_seq ?_ | refine sx_ops rfl ?_ | refine sx_skip ?_ | refine sx_block ?_ | refine sx_cond_t rfl ?_ | refine sx_cond_f rfl ?_) | refine sk_norm ?_ | refine bk_norm ?_ | (show wops _ _ _ _ _; first | (show wops _ (⟨_, .eqB _ _ _, none⟩ :: _) _ _ _; refine st_eqBB rfl rfl ?_))
              exact lk_next hp3 ⟨U, hA, hU.next (.inl ⟨cola, colb⟩), hh_⟩
            · repeat' first | refine st_nil ?_ | (show wops _ _ _ _ _; first | (show wops _ (⟨_, .mv _, none⟩ :: _) _ _ _; refine st_mv rx_ ?_) | (show wops _ (⟨_, .load _ _ _ (.tmp _), none⟩ :: _) _ _ _; refine st_load_c rx_ ?_) | (show wops _ (⟨_, .bin _ (.tmp _) _, none⟩ :: _) _ _ _; refine st_bin_c1 rx_ ?_) | (show wops _ (⟨_, .bin _ _ (.tmp _), none⟩ :: _) _ _ _; refine st_bin_c2 rx_ ?_) | (show wops _ (⟨_, .indexAddr _ (.tmp _) _, none⟩ :: _) _ _ _; refine st_index_c1 rx_ ?_) | (show wops _ (⟨_, .indexAddr _ _ (.tmp _), none⟩ :: _) _ _ _; refine st_index_c2 rx_ ?_) | (show wops _ (⟨_, .store _ (.tmp _) _, none⟩ :: _) _ _ _; refine st_store_c1 rx_ ?_) | (show wops _ (⟨_, .len _ (.tmp _), none⟩ :: _) _ _ _; refine st_len_c rx_ ?_) | (show wops _ (⟨_, .fieldAddr _ (.tmp _), none⟩ :: _) _ _ _; refine st_field_c rx_ ?_)) | (show wops _ _ _ _ _; first | (show wops _ (⟨_, _, some _⟩ :: _) _ _ _; first | refine st_skipg rfl ?_ | refine st_skipt rfl ?_) | (show wops _ (⟨_, .load _ _ _ _, none⟩ :: _) _ _ _; first | refine st_load_r rfl (by first | (simp; done) | (simp; omega)) pv_ ?_ | refine st_load_p rfl hq_ (by simp) (by first | (simp; done) | (simp; omega)) pv_ ?_) | (show wops _ (⟨_, .bin _ _ _, none⟩ :: _) _ _ _; first | refine st_add rfl rfl rfl (by omega) (by omega) ?_ | (refine st_lss rfl rfl rfl ?_ ?_ <;> (intro hc; try (exfalso; omega))) | refine st_mul rfl rfl rfl (by omega) (by omega) ?_) | (show wops _ (⟨_, .fieldAddr _ _, none⟩ :: _) _ _ _; refine st_field_p rfl (Nat.zero_add _) ?_) | (show wops _ (⟨_, .indexAddr _ _ _, none⟩ :: _) _ _ _; first | refine st_index_map' rfl rfl hri (by omega) rfl ?_ | refine st_index_map' rfl rfl hrj (by omega) rfl ?_ | refine st_index_map' rfl rfl ha (by omega) rfl ?_ | refine st_index_map' rfl rfl hb (by omega) rfl ?_ | refine st_index_own rfl rfl (by omega) (by omega) ?_) | (show wops _ (⟨_, .len _ _, none⟩ :: _) _ _ _; refine st_len_rd rfl ?_) | (show wops _ (⟨_, .pick _ _ _, none⟩ :: _) _ _ _; refine st_pick_t (v := AV.bool _) rfl rfl ?_)) | (show xcode _ _ _ _ _ _; first | refine sx_seq ?_ | refine sx_ops rfl ?_ | refine sx_skip ?_ | refine sx_block ?_ | refine sx_cond_t rfl ?_) | refine sk_norm ?_ | (show wops _ _ _ _ _; first | (show wops _ (⟨_, .eqB _ _ _, none⟩ :: _) _ _ _; refine st_eqBB rfl rfl ?_))
              refine st_store1 (f := .int .i64) (l := U) (a' := 1) (m := i * x.tags.l.length + j) rfl rfl harr (by omega) (by rw [hU.un.len]; exact hij) rfl rfl rfl ?_
              repeat' first | refine st_nil ?_ | (show wops _ _ _ _ _; first | (show wops _ (⟨_, .mv _, none⟩ :: _) _ _ _; refine st_mv rx_ ?_) | (show wops _ (⟨_, .bin _ (.tmp _) _, none⟩ :: _) _ _ _; refine st_bin_c1 rx_ ?_)) | (show wops _ _ _ _ _; first | (show wops _ (⟨_, .bin _ _ _, none⟩ :: _) _ _ _; refine st_add rfl rfl rfl (by omega) (by omega) ?_)) | (show xcode _ _ _ _ _ _; first | refine sx_ops rfl ?_) | refine sk_norm ?_ | refine bk_norm ?_
              exact lk_next hp3 ⟨_, hA.put _, hU.mark hi2 hj2, hh_⟩
          · rcases hbo with rfl | ⟨hb1, hb2⟩
            · repeat' first | refine st_nil ?_ | (show wops _ _ _ _ _; first | (show wops _ (⟨_, .mv _, none⟩ :: _) _ _ _; refine st_mv rx_ ?_) | (show wops _ (⟨_, .load _ _ _ (.tmp _), none⟩ :: _) _ _ _; refine st_load_c rx_ ?_) | (show wops _ (⟨_, .bin _ (.tmp _) _, none⟩ :: _) _ _ _; refine st_bin_c1 rx_ ?_) | (show wops _ (⟨_, .bin _ _ (.tmp _), none⟩ :: _) _ _ _; refine st_bin_c2 rx_ ?_) | (show wops _ (⟨_, .indexAddr _ (.tmp _) _, none⟩ :: _) _ _ _; refine st_index_c1 rx_ ?_) | (show wops _ (⟨_, .indexAddr _ _ (.tmp _), none⟩ :: _) _ _ _; refine st_index_c2 rx_ ?_) | (show wops _ (⟨_, .store _ (.tmp _) _, none⟩ :: _) _ _ _; refine st_store_c1 rx_ ?_) | (show wops _ (⟨_, .len _ (.tmp _), none⟩ :: _) _ _ _; refine st_len_c rx_ ?_) | (show wops _ (⟨_, .fieldAddr _ (.tmp _), none⟩ :: _) _ _ _; refine st_field_c rx_ ?_)) | (show wops _ _ _ _ _; first | (show wops _ (⟨_, _, some _⟩ :: _) _ _ _; first | refine st_skipg rfl ?_ | refine st_skipt rfl ?_) | (show wops _ (⟨_, .load _ _ _ _, none⟩ :: _) _ _ _; first | refine st_load_r rfl (by first | (simp; done) | (simp; omega)) pv_ ?_ | refine st_load_p rfl hq_ (by simp) (by first | (simp; done) | (simp; omega)) pv_ ?_) | (show wops _ (⟨_, .bin _ _ _, none⟩ :: _) _ _ _; first | refine st_add rfl rfl rfl (by omega) (by omega) ?_ | (refine st_lss rfl rfl rfl ?_ ?_ <;> (intro hc; try (exfalso; omega))) | refine st_mul rfl rfl rfl (by omega) (by omega) ?_) | (show wops _ (⟨_, .fieldAddr _ _, none⟩ :: _) _ _ _; refine st_field_p rfl (Nat.zero_add _) ?_) | (show wops _ (⟨_, .indexAddr _ _ _, none⟩ :: _) _ _ _; first | refine st_index_map' rfl rfl hri (by omega) rfl ?_ | refine st_index_map' rfl rfl hrj (by omega) rfl ?_ | refine st_index_map' rfl rfl ha (by omega) rfl ?_ | refine st_index_map' rfl rfl hb (by omega) rfl ?_ | refine st_index_own rfl rfl (by omega) (by omega) ?_) | (show wops _ (⟨_, .len _ _, none⟩ :: _) _ _ _; refine st_len_rd rfl ?_) | (show wops _ (⟨_, .pick _ _ _, none⟩ :: _) _ _ _; refine st_pick_t (v := AV.bool _) rfl rfl ?_)) | (show xcode _ _ _ _ _ _; first | refine sx_seq ?_ | refine sx_ops rfl ?_ | refine sx_skip ?_ | refine sx_block ?_ | refine sx_cond_t rfl ?_) | refine sk_norm ?_ | (show wops _ _ _ _ _; first | (show wops _ (⟨_, .eqB _ _ _, none⟩ :: _) _ _ _; refine st_eqBB rfl rfl ?_))
              refine st_store1 (f := .int .i64) (l := U) (a' := 1) (m := i * x.tags.l.length + j) rfl rfl harr (by omega) (by rw [hU.un.len]; exact hij) rfl rfl rfl ?_
              repeat' first | refine st_nil ?_ | (show wops _ _ _ _ _; first | (show wops _ (⟨_, .mv _, none⟩ :: _) _ _ _; refine st_mv rx_ ?_) | (show wops _ (⟨_, .bin _ (.tmp _) _, none⟩ :: _) _ _ _; refine st_bin_c1 rx_ ?_)) | (show wops _ _ _ _ _; first | (show wops _ (⟨_, .bin _ _ _, none⟩ :: _) _ _ _; refine st_add rfl rfl rfl (by omega) (by omega) ?_)) | (show xcode _ _ _ _ _ _; first | refine sx_ops rfl ?_) | refine sk_norm ?_ | refine bk_norm ?_
              exact lk_next hp3 ⟨_, hA.put _, hU.mark hi2 hj2, hh_⟩
            · obtain ⟨qa, rfl⟩ : ∃ q : Nat, a = q := ⟨a.toNat, by omega⟩
              obtain ⟨qb, rfl⟩ : ∃ q : Nat, b = q := ⟨b.toNat, by omega⟩
              have hab := cell_lt (n := x.tags.l.length) (i := qa) (j := qb) (by omega) (by omega)
              have hab1 : 0 ≤ (qa : Int) * (x.tags.l.length : Int) := by
                have := Nat.zero_le (qa * x.tags.l.length)
                omega
              have hab2 : (qa : Int) * (x.tags.l.length : Int) + (qb : Int) < (x.tags.l.length : Int) * (x.tags.l.length : Int) := by omega
              obtain ⟨u, hu⟩ := ex_get (l := U) (i := qa * x.tags.l.length + qb) (by rw [hU.un.len]; exact hab)
              by_cases hu1 : u = 1
              · subst hu1
                repeat' first | refine st_nil ?_ | (show wops _ _ _ _ _; first | (show wops _ (⟨_, .mv _, none⟩ :: _) _ _ _; refine st_mv rx_ ?_) | (show wops _ (⟨_, .load _ _ _ (.tmp _), none⟩ :: _) _ _ _; refine st_load_c rx_ ?_) | (show wops _ (⟨_, .bin _ (.tmp _) _, none⟩ :: _) _ _ _; refine st_bin_c1 rx_ ?_) | (show wops _ (⟨_, .bin _ _ (.tmp _), none⟩ :: _) _ _ _; refine st_bin_c2 rx_ ?_) | (show wops _ (⟨_, .indexAddr _ (.tmp _) _, none⟩ :: _) _ _ _; refine st_index_c1 rx_ ?_) | (show wops _ (⟨_, .indexAddr _ _ (.tmp _), none⟩ :: _) _ _ _; refine st_index_c2 rx_ ?_) | (show wops _ (⟨_, .store _ (.tmp _) _, none⟩ :: _) _ _ _; refine st_store_c1 rx_ ?_) | (show wops _ (⟨_, .len _ (.tmp _), none⟩ :: _) _ _ _; refine st_len_c rx_ ?_) | (show wops _ (⟨_, .fieldAddr _ (.tmp _), none⟩ :: _) _ _ _; refine st_field_c rx_ ?_)) | (show wops _ _ _ _ _; first | (show wops _ (⟨_, _, some _⟩ :: _) _ _ _; refine st_gog rfl ?_) | (show wops _ (⟨_, .load _ _ _ _, none⟩ :: _) _ _ _; first | refine st_load_map (g := _) rfl hq_ hu eq_ ?_ | refine st_load_r rfl (by first | (simp; done) | (simp; omega)) pv_ ?_ | refine st_load_p rfl hq_ (by simp) (by first | (simp; done) | (simp; omega)) pv_ ?_) | (show wops _ (⟨_, .bin _ _ _, none⟩ :: _) _ _ _; first | refine st_add rfl rfl rfl (by omega) (by omega) ?_ | (refine st_lss rfl rfl rfl ?_ ?_ <;> (intro hc; try (exfalso; omega))) | (refine st_geq rfl rfl rfl ?_ ?_ <;> (intro hc; try (exfalso; omega))) | (refine st_eql rfl rfl rfl ?_ ?_ <;> (intro hc; try (exfalso; omega))) | refine st_mul rfl rfl rfl (by omega) (by omega) ?_) | (show wops _ (⟨_, .fieldAddr _ _, none⟩ :: _) _ _ _; refine st_field_p rfl (Nat.zero_add _) ?_) | (show wops _ (⟨_, .indexAddr _ _ _, none⟩ :: _) _ _ _; first | refine st_index_map' rfl rfl hri (by omega) rfl ?_ | refine st_index_map' rfl rfl hrj (by omega) rfl ?_ | refine st_index_map' rfl rfl ha (by omega) rfl ?_ | refine st_index_map' rfl rfl hb (by omega) rfl ?_ | refine st_index_own rfl rfl (by omega) (by omega) ?_) | (show wops _ (⟨_, .len _ _, none⟩ :: _) _ _ _; refine st_len_rd rfl ?_) | (show wops _ (⟨_, .pick _ _ _, none⟩ :: _) _ _ _; first | refine st_pick_t (v := AV.bool _) rfl rfl ?_ | refine st_pick_f (v := AV.bool _) rfl rfl ?_)) | (show xcode _ _ _ _ _ _; first | refine sx_seq ?_ | refine sx_ops rfl ?_ | refine sx_skip ?_ | refine sx_block ?_ | refine sx_cond_t rfl ?_) | refine sk_norm ?_ | (show wops _ _ _ _ _; first | (show wops _ (⟨_, .eqB _ _ _, none⟩ :: _) _ _ _; refine st_eqBB rfl rfl ?_))
                refine st_store1 (f := .int .i64) (l := U) (a' := 1) (m := i * x.tags.l.length + j) rfl rfl harr (by omega) (by rw [hU.un.len]; exact hij) rfl rfl rfl ?_
                repeat' first | refine st_nil ?_ | (show wops _ _ _ _ _; first | (show wops _ (⟨_, .mv _, none⟩ :: _) _ _ _; refine st_mv rx_ ?_) | (show wops _ (⟨_, .bin _ (.tmp _) _, none⟩ :: _) _ _ _; refine st_bin_c1 rx_ ?_)) | (show wops _ _ _ _ _; first | (show wops _ (⟨_, .bin _ _ _, none⟩ :: _) _ _ _; refine st_add rfl rfl rfl (by omega) (by omega) ?_)) | (show xcode _ _ _ _ _ _; first | refine sx_ops rfl ?_) | refine sk_norm ?_ | refine bk_norm ?_
                exact lk_next hp3 ⟨_, hA.put _, hU.mark hi2 hj2, hh_⟩
              · repeat' first | refine st_nil ?_ | (show wops _ _ _ _ _; first | (show wops _ (⟨_, .mv _, none⟩ :: _) _ _ _; refine st_mv rx_ ?_) | (show wops _ (⟨_, .load _ _ _ (.tmp _), none⟩ :: _) _ _ _; refine st_load_c rx_ ?_) | (show wops _ (⟨_, .bin _ (.tmp _) _, none⟩ :: _) _ _ _; refine st_bin_c1 rx_ ?_) | (show wops _ (⟨_, .bin _ _ (.tmp _), none⟩ :: _) _ _ _; refine st_bin_c2 rx_ ?_) | (show wops _ (⟨_, .indexAddr _ (.tmp _) _, none⟩ :: _) _ _ _; refine st_index_c1 rx_ ?_) | (show wops _ (⟨_, .indexAddr _ _ (.tmp _), none⟩ :: _) _ _ _; refine st_index_c2 rx_ ?_) | (show wops _ (⟨_, .len _ (.tmp _), none⟩ :: _) _ _ _; refine st_len_c rx_ ?_) | (show wops _ (⟨_, .fieldAddr _ (.tmp _), none⟩ :: _) _ _ _; refine st_field_c rx_ ?_)) | (show wops _ _ _ _ _; first | (show wops _ (⟨_, _, some _⟩ :: _) _ _ _; refine st_gog rfl ?_) | (show wops _ (⟨_, .load _ _ _ _, none⟩ :: _) _ _ _; first | refine st_load_map (g := _) rfl hq_ hu eq_ ?_ | refine st_load_r rfl (by first | (simp; done) | (simp; omega)) pv_ ?_ | refine st_load_p rfl hq_ (by simp) (by first | (simp; done) | (simp; omega)) pv_ ?_) | (show wops _ (⟨_, .bin _ _ _, none⟩ :: _) _ _ _; first | refine st_add rfl rfl rfl (by omega) (by omega) ?_ | (refine st_lss rfl rfl rfl ?_ ?_ <;> (intro hc; try (exfalso; omega))) | (refine st_geq rfl rfl rfl ?_ ?_ <;> (intro hc; try (exfalso; omega))) | (refine st_eql rfl rfl rfl ?_ ?_ <;> (intro hc; try (exfalso; omega))) | refine st_mul rfl rfl rfl (by omega) (by omega) ?_) | (show wops _ (⟨_, .fieldAddr _ _, none⟩ :: _) _ _ _; refine st_field_p rfl (Nat.zero_add _) ?_) | (show wops _ (⟨_, .indexAddr _ _ _, none⟩ :: _) _ _ _; first | refine st_index_map' rfl rfl hri (by omega) rfl ?_ | refine st_index_map' rfl rfl hrj (by omega) rfl ?_ | refine st_index_map' rfl rfl ha (by omega) rfl ?_ | refine st_index_map' rfl rfl hb (by omega) rfl ?_ | refine st_index_own rfl rfl (by omega) (by omega) ?_) | (show wops _ (⟨_, .len _ _, none⟩ :: _) _ _ _; refine st_len_rd rfl ?_) | (show wops _ (⟨_, .pick _ _ _, none⟩ :: _) _ _ _; first | refine st_pick_t (v := AV.bool _) rfl rfl ?_ | refine st_pick_f (v := AV.bool _) rfl rfl ?_)) | (show xcode _ _ _ _ _ _; first | refine sx_seq ?_ | refine sx_ops rfl ?_ | refine sx_skip ?_ | refine sx_block ?_ | refine sx_cond_t rfl ?_ | refine sx_cond_f rfl ?_) | refine sk_norm ?_ | refine bk_norm ?_ | (show wops _ _ _ _ _; first | (show wops _ (⟨_, .eqB _ _ _, none⟩ :: _) _ _ _; refine st_eqBB rfl rfl ?_))
                refine lk_next hp3 ⟨U, hA, hU.next (.inr ⟨by rw [cola]; omega, by rw [colb]; omega, ?_⟩), hh_⟩
                rw [cola, colb]
                refine hU.un.un.far qa qb (by show qa < x.tags.l.length; omega) (by show qb < x.tags.l.length; omega) ?_
                show U.getD (qa * x.tags.l.length + qb) 0 ≠ 1
                rw [List.getD_eq_getElem?_getD, hu]
                exact hu1
        · have hp4 : p = x.plain.p := by omega
          subst hp4
          repeat' first | refine st_nil ?_ | (show wops _ _ _ _ _; first | (show wops _ (⟨_, .mv _, none⟩ :: _) _ _ _; refine st_mv rx_ ?_) | (show wops _ (⟨_, .load _ _ _ (.tmp _), none⟩ :: _) _ _ _; refine st_load_c rx_ ?_) | (show wops _ (⟨_, .bin _ (.tmp _) _, none⟩ :: _) _ _ _; refine st_bin_c1 rx_ ?_) | (show wops _ (⟨_, .bin _ _ (.tmp _), none⟩ :: _) _ _ _; refine st_bin_c2 rx_ ?_) | (show wops _ (⟨_, .len _ (.tmp _), none⟩ :: _) _ _ _; refine st_len_c rx_ ?_) | (show wops _ (⟨_, .fieldAddr _ (.tmp _), none⟩ :: _) _ _ _; refine st_field_c rx_ ?_)) | (show wops _ _ _ _ _; first | (show wops _ (⟨_, .load _ _ _ _, none⟩ :: _) _ _ _; refine st_load_p rfl hq_ (by simp) (by first | (simp; done) | (simp; omega)) pv_ ?_) | (show wops _ (⟨_, .bin _ _ _, none⟩ :: _) _ _ _; first | refine st_add rfl rfl rfl (by omega) (by omega) ?_ | (refine st_lss rfl rfl rfl ?_ ?_ <;> (intro hc; try (exfalso; omega)))) | (show wops _ (⟨_, .fieldAddr _ _, none⟩ :: _) _ _ _; refine st_field_p rfl (Nat.zero_add _) ?_) | (show wops _ (⟨_, .len _ _, none⟩ :: _) _ _ _; refine st_len_rd rfl ?_)) | (show xcode _ _ _ _ _ _; first | refine sx_seq ?_ | refine sx_ops rfl ?_ | refine sx_exit ?_ | refine sx_cond_f rfl ?_) | refine sk_norm ?_ | refine sk_exit ?_ | refine bk_norm ?_ | refine bk_exit ?_ | refine lk_exit ?_
          exact lk_next hj2 ⟨U, hA, hU.done hok hi2 hj2, hh_⟩
      · obtain rfl : j = x.tags.l.length := by omega
        repeat' first | refine st_nil ?_ | (show wops _ _ _ _ _; first | (show wops _ (⟨_, .mv _, none⟩ :: _) _ _ _; refine st_mv rx_ ?_) | (show wops _ (⟨_, .bin _ (.tmp _) _, none⟩ :: _) _ _ _; refine st_bin_c1 rx_ ?_) | (show wops _ (⟨_, .bin _ _ (.tmp _), none⟩ :: _) _ _ _; refine st_bin_c2 rx_ ?_)) | (show wops _ _ _ _ _; first | (show wops _ (⟨_, .bin _ _ _, none⟩ :: _) _ _ _; first | refine st_add rfl rfl rfl (by omega) (by omega) ?_ | (refine st_lss rfl rfl rfl ?_ ?_ <;> (intro hc; try (exfalso; omega))))) | (show xcode _ _ _ _ _ _; first | refine sx_seq ?_ | refine sx_ops rfl ?_ | refine sx_exit ?_ | refine sx_cond_f rfl ?_) | refine sk_norm ?_ | refine sk_exit ?_ | refine bk_norm ?_ | refine bk_exit ?_ | refine lk_exit ?_
        exact lk_next hi2 ⟨U, hA, hU.row, hh_⟩
    · obtain rfl : i = x.tags.l.length := by omega
      repeat' first | refine st_nil ?_ | (show wops _ _ _ _ _; first | (show wops _ (⟨_, .mv _, none⟩ :: _) _ _ _; refine st_mv rx_ ?_) | (show wops _ (⟨_, .bin _ (.tmp _) _, none⟩ :: _) _ _ _; refine st_bin_c1 rx_ ?_) | (show wops _ (⟨_, .bin _ _ (.tmp _), none⟩ :: _) _ _ _; refine st_bin_c2 rx_ ?_)) | (show wops _ _ _ _ _; first | (show wops _ (⟨_, .bin _ _ _, none⟩ :: _) _ _ _; first | refine st_add rfl rfl rfl (by omega) (by omega) ?_ | (refine st_lss rfl rfl rfl ?_ ?_ <;> (intro hc; try (exfalso; omega))))) | (show xcode _ _ _ _ _ _; first | refine sx_seq ?_ | refine sx_ops rfl ?_ | refine sx_exit ?_ | refine sx_cond_f rfl ?_) | refine sk_norm ?_ | refine sk_exit ?_ | refine bk_norm ?_ | refine bk_exit ?_ | refine lk_exit ?_
      exact lk_next hr2 ⟨U, hA, hU.done, hh_⟩
  · obtain rfl : r = x.tags.l.length + 1 := by omega
    repeat' first | refine st_nil ?_ | (show wops _ _ _ _ _; first | (show wops _ (⟨_, .mv _, none⟩ :: _) _ _ _; refine st_mv rx_ ?_) | (show wops _ (⟨_, .bin _ (.tmp _) _, none⟩ :: _) _ _ _; refine st_bin_c1 rx_ ?_) | (show wops _ (⟨_, .bin _ _ (.tmp _), none⟩ :: _) _ _ _; refine st_bin_c2 rx_ ?_)) | (show wops _ _ _ _ _; first | (show wops _ (⟨_, .bin _ _ _, none⟩ :: _) _ _ _; (refine st_leq rfl rfl rfl ?_ ?_ <;> (intro hc; try (exfalso; omega))))) | (show xcode _ _ _ _ _ _; first | refine sx_seq ?_ | refine sx_ops rfl ?_ | refine sx_block ?_ | refine sx_exit ?_ | refine sx_cond_f rfl ?_) | refine sk_norm ?_ | refine sk_exit ?_ | refine bk_exit ?_ | refine lk_exit ?_
    refine sx_for x.tags.l.length (fun i env h' => UnAt h' i9 iu x U ∧ env.has [(11, .int .i64 x.tags.l.length), (12, .own iu 1 1 0 (x.tags.l.length * x.tags.l.length) none), (19, .int .i64 i)]) ⟨hA, hh_⟩ ?_
    clear hbox harr hA
    rintro i env h' hi ⟨hA, he⟩
    have harr := hA.arr
    obtain ⟨env, rfl⟩ := he.ex
    clear he
    by_cases hi2 : i < x.tags.l.length
    · repeat' first | refine st_nil ?_ | (show wops _ _ _ _ _; first | (show wops _ (⟨_, .mv _, none⟩ :: _) _ _ _; refine st_mv rx_ ?_) | (show wops _ (⟨_, .bin _ (.tmp _) _, none⟩ :: _) _ _ _; refine st_bin_c1 rx_ ?_) | (show wops _ (⟨_, .bin _ _ (.tmp _), none⟩ :: _) _ _ _; refine st_bin_c2 rx_ ?_)) | (show wops _ _ _ _ _; first | (show wops _ (⟨_, .bin _ _ _, none⟩ :: _) _ _ _; (refine st_lss rfl rfl rfl ?_ ?_ <;> (intro hc; try (exfalso; omega))))) | (show xcode _ _ _ _ _ _; first | refine sx_seq ?_ | refine sx_ops rfl ?_ | refine sx_skip ?_ | refine sx_block ?_ | refine sx_cond_t rfl ?_) | refine sk_norm ?_
      refine sx_for i (fun j env h' => UnAt h' i9 iu x U ∧ env.has [(11, .int .i64 x.tags.l.length), (12, .own iu 1 1 0 (x.tags.l.length * x.tags.l.length) none), (19, .int .i64 i), (20, .int .i64 j)]) ⟨hA, hh_⟩ ?_
      clear harr hA
      rintro j env h' hj ⟨hA, he⟩
      have harr := hA.arr
      obtain ⟨env, rfl⟩ := he.ex
      clear he
      by_cases hj2 : j < i
      · have hij := cell_lt hi2 (show j < x.tags.l.length by omega)
        have hij1 : 0 ≤ (i : Int) * (x.tags.l.length : Int) := by
          have := Nat.zero_le (i * x.tags.l.length)
          omega
        have hij2 : (i : Int) * (x.tags.l.length : Int) + (j : Int) < (x.tags.l.length : Int) * (x.tags.l.length : Int) := by omega
        obtain ⟨u, hu⟩ := ex_get (l := U) (i := i * x.tags.l.length + j) (by rw [hU.len]; exact hij)
        have hu1 : u = 1 := by
          have := hU.last hx hd.ok hok (i := i) (j := j) hi2 (show j < x.tags.l.length by omega) (by omega)
          change U.getD (i * x.tags.l.length + j) 0 = 1 at this
          rw [List.getD_eq_getElem?_getD, hu] at this
          exact this
        subst hu1
        repeat' first | refine st_nil ?_ | (show wops _ _ _ _ _; first | (show wops _ (⟨_, .mv _, none⟩ :: _) _ _ _; refine st_mv rx_ ?_) | (show wops _ (⟨_, .load _ _ _ (.tmp _), none⟩ :: _) _ _ _; refine st_load_c rx_ ?_) | (show wops _ (⟨_, .bin _ (.tmp _) _, none⟩ :: _) _ _ _; refine st_bin_c1 rx_ ?_) | (show wops _ (⟨_, .bin _ _ (.tmp _), none⟩ :: _) _ _ _; refine st_bin_c2 rx_ ?_) | (show wops _ (⟨_, .indexAddr _ (.tmp _) _, none⟩ :: _) _ _ _; refine st_index_c1 rx_ ?_) | (show wops _ (⟨_, .indexAddr _ _ (.tmp _), none⟩ :: _) _ _ _; refine st_index_c2 rx_ ?_)) | (show wops _ _ _ _ _; first | (show wops _ (⟨_, .load _ _ _ _, none⟩ :: _) _ _ _; refine st_load_map (g := _) rfl hq_ hu eq_ ?_) | (show wops _ (⟨_, .bin _ _ _, none⟩ :: _) _ _ _; first | refine st_add rfl rfl rfl (by omega) (by omega) ?_ | (refine st_lss rfl rfl rfl ?_ ?_ <;> (intro hc; try (exfalso; omega))) | (refine st_eql rfl rfl rfl ?_ ?_ <;> (intro hc; try (exfalso; omega))) | refine st_mul rfl rfl rfl (by omega) (by omega) ?_) | (show wops _ (⟨_, .indexAddr _ _ _, none⟩ :: _) _ _ _; refine st_index_own rfl rfl (by omega) (by omega) ?_)) | (show xcode _ _ _ _ _ _; first | refine sx_seq ?_ | refine sx_ops rfl ?_ | refine sx_skip ?_ | refine sx_block ?_ | refine sx_cond_t rfl ?_ | refine sx_cond_f rfl ?_) | refine sk_norm ?_ | refine bk_norm ?_
        exact lk_next hj2 ⟨hA, hh_⟩
      · obtain rfl : j = i := by omega
        repeat' first | refine st_nil ?_ | (show wops _ _ _ _ _; first | (show wops _ (⟨_, .mv _, none⟩ :: _) _ _ _; refine st_mv rx_ ?_) | (show wops _ (⟨_, .bin _ (.tmp _) _, none⟩ :: _) _ _ _; refine st_bin_c1 rx_ ?_) | (show wops _ (⟨_, .bin _ _ (.tmp _), none⟩ :: _) _ _ _; refine st_bin_c2 rx_ ?_)) | (show wops _ _ _ _ _; first | (show wops _ (⟨_, .bin _ _ _, none⟩ :: _) _ _ _; first | refine st_add rfl rfl rfl (by omega) (by omega) ?_ | (refine st_lss rfl rfl rfl ?_ ?_ <;> (intro hc; try (exfalso; omega))))) | (show xcode _ _ _ _ _ _; first | refine sx_seq ?_ | refine sx_ops rfl ?_ | refine sx_exit ?_ | refine sx_cond_f rfl ?_) | refine sk_norm ?_ | refine sk_exit ?_ | refine bk_norm ?_ | refine bk_exit ?_ | refine lk_exit ?_
        exact lk_next hi2 ⟨hA, hh_⟩
    · repeat' first | refine st_nil ?_ | (show wops _ _ _ _ _; first | (show wops _ (⟨_, .mv _, none⟩ :: _) _ _ _; refine st_mv rx_ ?_) | (show wops _ (⟨_, .bin _ (.tmp _) _, none⟩ :: _) _ _ _; refine st_bin_c1 rx_ ?_) | (show wops _ (⟨_, .bin _ _ (.tmp _), none⟩ :: _) _ _ _; refine st_bin_c2 rx_ ?_)) | (show wops _ _ _ _ _; first | (show wops _ (⟨_, .bin _ _ _, none⟩ :: _) _ _ _; (refine st_lss rfl rfl rfl ?_ ?_ <;> (intro hc; try (exfalso; omega))))) | (show xcode _ _ _ _ _ _; first | refine sx_seq ?_ | refine sx_ops rfl ?_ | refine sx_ret ?_ | refine sx_exit ?_ | refine sx_cond_f rfl ?_) | refine sk_norm ?_ | refine sk_exit ?_ | refine bk_exit ?_ | refine lk_exit ?_
      exact fin_ret (v := .bool true) rfl rfl

end Go.Proofs.YtpcbpgepjfenhaaDoor
