/- The seat's library (machines at one place): each function is its code; room and sorting by the kit's contracts. What the Dfa statements read of their arguments. -/
import Derived.Test.YtdldfflfbfpngaaGreatDoorG
import Derived.Test.YtdldfflfbfpngaaGreatDoorA8
import Derived.Test.YtdldfflfbfpngaaGreatDoorO2
import Derived.Test.YtdldfflfbfpngaaGreatDoorCC
import Derived.Test.YtdldfflfbfpngaaGreatDoorLaid
import Derived.WalkKit
import Derived.ProofKit
import Derived.ChangeBears
import Derived.Deep.QuietTactic
import Derived.Test.YtdldfflfbfpngaaGreatDoorA7
import Derived.Test.YtdldfflfbfpngaaGreatDoorOA
set_option linter.unusedVariables false
namespace Go.Proofs.YtdldfflfbfpngaaGreatDoor
open Go Go.Shelf Go.RowKit Go.Lib Go.Sort
set_option maxHeartbeats 1000000 in
theorem closureSpan (x y : Int × Int) (W : World) : Calls Tryz.prog 94 #[.agg #[.int .i64 x.1, .int .i64 x.2], .agg #[.int .i64 y.1, .int .i64 y.2]] W fun e w' => e = .returned (.int .i64 (Lib.compareInt x.1 y.1)) ∧ ∃ q os', w' = grow (W.drewN q) os' := by
  have hcon := fun W' => AnyG.cmp_Compare_int Tryz.cmpInt x.1 y.1 W'
  change ∀ W', Calls Tryz.prog 95 _ _ _ at hcon
  generalize Lib.compareInt x.1 y.1 = r at hcon ⊢
  go_enter Tryz.func94, Tryz.ntmps94
  go_wp2_with (go_at_call 95; refine (hcon _).mono ?_; rintro e w' ⟨rfl, rfl⟩)
  go_ret
  exact ⟨rfl, 0, _, by rw [alloc_eq_grow, alloc_eq_grow, grow_grow]; rfl⟩
theorem sortsIn (m : Nat) : AnyZI.SortsIn Tryz.prog Tryz.sortedKeys_ren Fence.wide m :=
  ⟨fun blk off cap ss W hH hblk hsz => callsIn_wide.2 (Any.slices_Sort_int Tryz.sortInts blk off cap ss W hH hblk hsz),
   fun p cap W => callsIn_wide.2 (Any.slices_Sort_int_none Tryz.sortInts p cap W)⟩
def growOk (o : Option TypeInfo) : Bool := match o with
  | some i => (match i.zero with
    | some z => i.size == 2 && z.cells.size == 2 && decide (i.bytes ≤ 1024)
    | none => false)
  | none => false
theorem growOk_iff {o : Option TypeInfo} (h : growOk o = true) : ∃ i z, o = some i ∧ i.zero = some z ∧ i.size = 2 ∧ z.cells.size = 2 ∧ i.bytes ≤ 1024 := by
  unfold growOk at h
  split at h
  · rename_i i
    split at h
    · rename_i z hz
      simp only [Bool.and_eq_true, beq_iff_eq, decide_eq_true_eq] at h
      exact ⟨i, z, rfl, hz, h.1.1, h.1.2, h.2⟩
    · cases h
  · cases h
theorem growInfo : ∃ i z, Tryz.prog.info? 73 = some i ∧ i.zero = some z ∧ i.size = 2 ∧ z.cells.size = 2 ∧ i.bytes ≤ 1024 := growOk_iff (by kernel_rfl)
noncomputable def exts (k : Nat) : Ext := if k = 201 then extSortedKeys 212 else if k = 128 then extGrow 2 else if k = 48 then extSortPairs 49 else extSortInts
noncomputable def seatL : Lib := libOf (seatLib exts)
theorem seat_ok : LibOk seatL (phiOf Tryz.prog seatTab) (numOf seatTab) Tryz.prog := by
  refine libOk_of (by kernel_rfl) seat_tab (seat_codes exts) fun k fid p hk hl X args vals Q hp hX hv => ?_
  have hkk : (k = 201 ∧ p = extSortedKeys 212) ∨ (k = 128 ∧ p = extGrow 2) ∨ (k = 48 ∧ p = extSortPairs 49) ∨ (k = 42 ∧ p = extSortInts) := by
    simp only [libOf, Option.map_eq_some_iff] at hl
    obtain ⟨q, hq, e⟩ := hl
    have hmem := List.mem_of_find?_eq_some hq
    have hk2 : q.1 = k := by simpa using List.find?_some hq
    obtain ⟨a, b⟩ := q
    simp only at e hk2
    subst e hk2
    simp only [seatLib, List.mem_cons, List.not_mem_nil, or_false, Prod.mk.injEq, reduceCtorEq, and_false, false_or, DFun.ext.injEq] at hmem
    simp only [exts] at hmem
    rcases hmem with ⟨rfl, rfl⟩ | ⟨rfl, rfl⟩ | ⟨rfl, rfl⟩ | ⟨rfl, rfl⟩ <;> simp
  rcases hkk with ⟨rfl, rfl⟩ | ⟨rfl, rfl⟩ | ⟨rfl, rfl⟩ | ⟨rfl, rfl⟩
  · have : fid = 97 := by
      have h2 : phiFn seatTab 201 = some 97 := by decide
      rw [h2] at hk
      exact (Option.some.inj hk).symm
    subst this
    exact extSortedKeys_ok Tryz.sortedKeys Tryz.keysIt sortsIn (enters_of Tryz.func101 (by kernel_rfl) rfl) (enters_of Tryz.func121 (by kernel_rfl) rfl) Tryz.underlying3 (c := 212) (by decide) hp hX hv
  · have : fid = 126 := by
      have h2 : phiFn seatTab 128 = some 126 := by decide
      rw [h2] at hk
      exact (Option.some.inj hk).symm
    subst this
    obtain ⟨i, z, g1, g2, g3, g4, g5⟩ := growInfo
    exact extGrow_ok Tryz.growSpan (by decide) i z g1 g2 g3 g4 g5 hp hX hv
  · have : fid = 93 := by
      have h2 : phiFn seatTab 48 = some 93 := by decide
      rw [h2] at hk
      exact (Option.some.inj hk).symm
    subst this
    refine extSortPairs_ok Tryz.sortSpan Tryz.isAgg73 Tryz.sizeOf73 (gf := 94) (by decide) (enters_of Tryz.func94 (by kernel_rfl) rfl) closureSpan hp hX hv
  · have : fid = 101 := by
      have h2 : phiFn seatTab 42 = some 101 := by decide
      rw [h2] at hk
      exact (Option.some.inj hk).symm
    subst this
    exact extSortInts_ok Tryz.sortInts hp hX hv
theorem seat_lib1 : C1Lib seatL := by
  constructor <;> rfl
theorem seat_lib2 : C2Lib seatL := by
  constructor <;> rfl
theorem seat_lib3 : LibC3 seatL := by
  constructor <;> rfl
theorem seat_lib4 : LibC4 seatL := by
  constructor <;> rfl
theorem seat_lib5 : LibC5 seatL := by
  constructor <;> rfl
theorem seat_sort : SortLib seatL := ⟨by show some (DFun.ext (exts 48)) = _; simp [exts], by show some (DFun.ext (exts 42)) = _; simp [exts]⟩
theorem seat_grow : GrowLib seatL := ⟨by show some (DFun.ext (exts 128)) = _; simp [exts]⟩
theorem seat_key : KeyLib seatL := ⟨by show some (DFun.ext (exts 201)) = _; simp [exts]⟩
theorem seat_kids : Kids Tryz.prog (· < Tryz.prog.types.size) := kids_rows (by kernel_rfl) (by kernel_rfl)
theorem seat_rows : ((List.range Tryz.prog.types.size).all fun t => match Tryz.prog.underlying t with
    | some (.slice e) => decide (0 < Tryz.prog.cellsOf e)
    | _ => true) = true := by kernel_rfl
theorem seat_sz {t e : TypeId} (ht : t < Tryz.prog.types.size) (h : Tryz.prog.underlying t = some (.slice e)) : 0 < Tryz.prog.cellsOf e := by
  have := List.all_eq_true.1 seat_rows t (List.mem_range.2 ht)
  rw [h] at this
  simpa using this
mutual
theorem upto_bulk {H : Type} : ∀ d : DataW H, Rows.uptoBulk d = dBulk d
  | .lit l => by cases l <;> simp [Rows.uptoBulk, dBulk]
  | .nil => by simp [Rows.uptoBulk, dBulk]
  | .ptr d => by simp [Rows.uptoBulk, dBulk, upto_bulk d]
  | .slice a b => by simp [Rows.uptoBulk, dBulk, upto_bulkAll a, upto_bulkAll b]
  | .agg a => by simp [Rows.uptoBulk, dBulk, upto_bulkAll a]
  | .iface _ d => by simp [Rows.uptoBulk, dBulk, upto_bulk d]
  | .map a => by simp [Rows.uptoBulk, dBulk, upto_bulkEntries a]
  | .held _ => by simp [Rows.uptoBulk, dBulk]
theorem upto_bulkAll {H : Type} : ∀ ds : List (DataW H), Rows.uptoBulkAll ds = dBulkAll ds
  | [] => rfl
  | d :: r => by simp [Rows.uptoBulkAll, dBulkAll, upto_bulk d, upto_bulkAll r]
theorem upto_bulkEntries {H : Type} : ∀ ds : List (Lit × DataW H), Rows.uptoBulkEntries ds = dBulkEntries ds
  | [] => rfl
  | x :: r => by simp [Rows.uptoBulkEntries, dBulkEntries, upto_bulkEntry x, upto_bulkEntries r]
theorem upto_bulkEntry {H : Type} : ∀ x : Lit × DataW H, Rows.uptoBulkEntry x = dBulkEntry x
  | (l, d) => by cases l <;> simp [Rows.uptoBulkEntry, dBulkEntry, upto_bulk d]
end
theorem upto_small {H : Type} {ds : List (DataW H)} (h : Rows.uptoSmall H ds = true) : dBulkAll ds ≤ 1048576 := by
  rw [← upto_bulkAll]
  exact of_decide_eq_true h
def putObj (vs : Array Value) : Obj → Obj
  | .cells _ t fr => .cells vs t fr
  | o => o
def seatWorld (w : World) : World := { w with heap := ((w.heap.modify 0 (putObj #[.int .u64 1, .int .u64 10, .int .u64 100, .int .u64 1000, .int .u64 10000, .int .u64 100000, .int .u64 1000000, .int .u64 10000000, .int .u64 100000000, .int .u64 1000000000, .int .u64 10000000000, .int .u64 100000000000, .int .u64 1000000000000, .int .u64 10000000000000, .int .u64 100000000000000, .int .u64 1000000000000000, .int .u64 10000000000000000, .int .u64 100000000000000000, .int .u64 1000000000000000000, .int .u64 10000000000000000000])).modify 1 (putObj #[.int .u8 0, .int .u8 1, .int .u8 28, .int .u8 2, .int .u8 29, .int .u8 14, .int .u8 24, .int .u8 3, .int .u8 30, .int .u8 22, .int .u8 20, .int .u8 15, .int .u8 25, .int .u8 17, .int .u8 4, .int .u8 8, .int .u8 31, .int .u8 27, .int .u8 13, .int .u8 23, .int .u8 21, .int .u8 19, .int .u8 16, .int .u8 7, .int .u8 26, .int .u8 12, .int .u8 18, .int .u8 6, .int .u8 11, .int .u8 5, .int .u8 10, .int .u8 9])).modify 2 (putObj #[.int .u8 0, .int .u8 1, .int .u8 56, .int .u8 2, .int .u8 57, .int .u8 49, .int .u8 28, .int .u8 3, .int .u8 61, .int .u8 58, .int .u8 42, .int .u8 50, .int .u8 38, .int .u8 29, .int .u8 17, .int .u8 4, .int .u8 62, .int .u8 47, .int .u8 59, .int .u8 36, .int .u8 45, .int .u8 43, .int .u8 51, .int .u8 22, .int .u8 53, .int .u8 39, .int .u8 33, .int .u8 30, .int .u8 24, .int .u8 18, .int .u8 12, .int .u8 5, .int .u8 63, .int .u8 55, .int .u8 48, .int .u8 27, .int .u8 60, .int .u8 41, .int .u8 37, .int .u8 16, .int .u8 46, .int .u8 35, .int .u8 44, .int .u8 21, .int .u8 52, .int .u8 32, .int .u8 23, .int .u8 11, .int .u8 54, .int .u8 26, .int .u8 40, .int .u8 15, .int .u8 34, .int .u8 20, .int .u8 31, .int .u8 10, .int .u8 25, .int .u8 14, .int .u8 19, .int .u8 9, .int .u8 13, .int .u8 8, .int .u8 7, .int .u8 6]) }
end Go.Proofs.YtdldfflfbfpngaaGreatDoor
set_option linter.unusedVariables false
set_option linter.unusedSimpArgs false
namespace Go.Proofs.YtdldfflfbfpngaaGreatDoor
open Go
theorem AV.bulk_pos (v : AV) : 1 ≤ v.bulk := by
  cases v <;> simp [AV.bulk]
theorem AV.bulkL_len : ∀ cs : List AV, cs.length ≤ AV.bulkL cs
  | [] => Nat.zero_le _
  | v :: cs => by
    have h1 := AV.bulk_pos v
    have h2 := AV.bulkL_len cs
    simp only [AV.bulkL, List.length_cons]; omega
theorem TVall.len {n : Nat} {e : Ty} : ∀ {es : List (List AV)}, TVall n e es → es.flatten.length = es.length * n
  | _, .nil => by simp
  | _, .cons (c := c) (es := es) _ h2 h3 => by
    rw [List.flatten_cons, List.length_append, h2, h3.len, List.length_cons, Nat.add_mul, Nat.one_mul, Nat.add_comm]
theorem tvall_dec {α : Type} {f : α → List AV} {P : α → Prop} {n B : Nat} {e : Ty} (hd : ∀ c, TV e c → AV.bulkL c ≤ B → ∃ x, c = f x ∧ P x) : ∀ {es : List (List AV)}, TVall n e es → AV.bulkL es.flatten ≤ B → ∃ l : List α, es.length = l.length ∧ es.flatten = l.flatMap f ∧ ∀ x ∈ l, P x
  | _, .nil, _ => ⟨[], rfl, rfl, fun x h => by cases h⟩
  | _, .cons (c := c) (es := es) h1 _ h3, hb => by
    rw [List.flatten_cons, AV.bulkL_append] at hb
    obtain ⟨x, rfl, hx⟩ := hd c h1 (by omega)
    obtain ⟨l, a1, a2, a3⟩ := tvall_dec hd h3 (by omega)
    refine ⟨x :: l, by simp [a1], by rw [List.flatten_cons, a2, List.flatMap_cons], fun y hy => ?_⟩
    rcases List.mem_cons.1 hy with rfl | hy
    · exact hx
    · exact a3 y hy
theorem slice_dec {α : Type} {f : α → List AV} {P : α → Prop} {n B : Nat} {e : Ty} (hn : 1 ≤ n) (hd : ∀ c, TV e c → AV.bulkL c ≤ B → ∃ x, c = f x ∧ P x) {c : List AV} (hc : TV (.slice n e) c) (hb : AV.bulkL c ≤ B) : ∃ l : List α, c = [.rd l.length (l.flatMap f) false] ∧ l.length ≤ B ∧ ∀ x ∈ l, P x := by
  cases hc with
  | slice h =>
    rename_i es
    simp only [AV.bulkL, AV.bulk] at hb
    have h1 := AV.bulkL_len es.flatten
    have h2 := h.len
    have h3 : es.length ≤ es.length * n := Nat.le_mul_of_pos_right _ hn
    obtain ⟨l, a1, a2, a3⟩ := tvall_dec hd h (by omega)
    exact ⟨l, by rw [a1, a2], by omega, a3⟩
theorem flat_one {α : Type} {g : α → AV} (l : List α) : l.flatMap (fun x => [g x]) = l.map g := by
  induction l with
  | nil => rfl
  | cons a l ih => simp [ih]
theorem slice_dec1 {α : Type} {g : α → AV} {P : α → Prop} {B : Nat} {e : Ty} (hd : ∀ c, TV e c → AV.bulkL c ≤ B → ∃ x, c = [g x] ∧ P x) {c : List AV} (hc : TV (.slice 1 e) c) (hb : AV.bulkL c ≤ B) : ∃ l : List α, c = [.rd l.length (l.map g) false] ∧ l.length ≤ B ∧ ∀ x ∈ l, P x := by
  obtain ⟨l, a1, a2, a3⟩ := slice_dec (f := fun x => [g x]) (Nat.le_refl 1) hd hc hb
  exact ⟨l, by rw [a1, flat_one], a2, a3⟩
theorem int_dec {k : IntKind} {c : List AV} (hc : TV (.int k) c) : ∃ x : Int, c = [.int k x] ∧ k.min ≤ x ∧ x ≤ k.max := by
  cases hc with
  | int h1 h2 => exact ⟨_, rfl, h1, h2⟩
theorem ints_dec {k : IntKind} {B : Nat} {c : List AV} (hc : TV (.slice 1 (.int k)) c) (hb : AV.bulkL c ≤ B) : ∃ l : List Int, c = [.rd l.length (l.map (.int k)) false] ∧ l.length ≤ B ∧ ∀ x ∈ l, k.min ≤ x ∧ x ≤ k.max :=
  slice_dec1 (fun c h _ => int_dec h) hc hb
theorem u8_range {x : Int} (h : IntKind.u8.min ≤ x ∧ x ≤ IntKind.u8.max) : 0 ≤ x ∧ x ≤ 255 := by
  simpa [IntKind.min, IntKind.max, IntKind.bits, IntKind.signed] using h
theorem u16_range {x : Int} (h : IntKind.u16.min ≤ x ∧ x ≤ IntKind.u16.max) : 0 ≤ x ∧ x ≤ 65535 := by
  simpa [IntKind.min, IntKind.max, IntKind.bits, IntKind.signed] using h
theorem i8_range {x : Int} (h : IntKind.i8.min ≤ x ∧ x ≤ IntKind.i8.max) : -128 ≤ x ∧ x ≤ 127 := by
  simpa [IntKind.min, IntKind.max, IntKind.bits, IntKind.signed] using h
theorem i64_range {x : Int} (h : IntKind.i64.min ≤ x ∧ x ≤ IntKind.i64.max) : -9223372036854775808 ≤ x ∧ x ≤ 9223372036854775807 := by
  simpa [IntKind.min, IntKind.max, IntKind.bits, IntKind.signed] using h
theorem arg_cell {t : Ty} {a : AV} (ha : TArg t a) (ht : ∀ l, t ≠ .struct l) : TV t [a] := by
  cases ha with
  | cell h _ => exact h
  | struct h => exact absurd rfl (ht _)
theorem argBulk_cell {t : Ty} {a : AV} (ha : TArg t a) (ht : ∀ l, t ≠ .struct l) : AV.bulkL [a] ≤ a.argBulk := by
  have h := arg_cell ha ht
  cases a with
  | agg cs =>
    cases h with
    | struct _ => exact absurd rfl (ht _)
  | _ => simp [AV.bulkL, AV.argBulk]
theorem arg_int {k : IntKind} {a : AV} (ha : TArg (.int k) a) : ∃ x : Int, a = .int k x ∧ k.min ≤ x ∧ x ≤ k.max := by
  obtain ⟨x, e, h⟩ := int_dec (arg_cell ha (fun l e => by cases e))
  exact ⟨x, by cases e; rfl, h⟩
theorem arg_ints {k : IntKind} {a : AV} (ha : TArg (.slice 1 (.int k)) a) (hb : a.argBulk ≤ 1048576) : ∃ l : List Int, a = .rd l.length (l.map (.int k)) false ∧ l.length ≤ 1048576 ∧ ∀ x ∈ l, k.min ≤ x ∧ x ≤ k.max := by
  have hne : ∀ l, Ty.slice 1 (.int k) ≠ .struct l := fun l e => by cases e
  obtain ⟨l, e, h⟩ := ints_dec (B := 1048576) (arg_cell ha hne) (Nat.le_trans (argBulk_cell ha hne) hb)
  exact ⟨l, by cases e; rfl, h⟩
@[reducible] def u16sT : Ty := .slice 1 (.slice 1 (.int .u16))
@[reducible] def i8sT : Ty := .slice 1 (.int .i8)
theorem row16_dec {c : List AV} (hc : TV (.slice 1 (.int .u16)) c) (hb : AV.bulkL c ≤ 1048576) : ∃ r : Rw Int, c = [u16row r] ∧ (r.l.length ≤ 1048576 ∧ ∀ x ∈ r.l, 0 ≤ x ∧ x ≤ 65535) := by
  obtain ⟨l, rfl, b1, b2⟩ := ints_dec (B := 1048576) hc hb
  exact ⟨⟨l, false⟩, rfl, b1, fun x hx => u16_range (b2 x hx)⟩
theorem arg_rows16 {a : AV} (ha : TArg u16sT a) (hb : a.argBulk ≤ 1048576) : ∃ r : Rw (Rw Int), a = r.mv u16row ∧ r.l.length ≤ 1048576 ∧ ∀ x ∈ r.l, x.l.length ≤ 1048576 ∧ ∀ y ∈ x.l, 0 ≤ y ∧ y ≤ 65535 := by
  have hne : ∀ l, u16sT ≠ .struct l := fun l e => by cases e
  obtain ⟨l, e, b1, b2⟩ := slice_dec1 (B := 1048576) (g := u16row) (fun c h hb => row16_dec h hb) (arg_cell ha hne) (Nat.le_trans (argBulk_cell ha hne) hb)
  exact ⟨⟨l, false⟩, by cases e; rfl, b1, b2⟩
theorem arg_i8s {a : AV} (ha : TArg i8sT a) (hb : a.argBulk ≤ 1048576) : ∃ r : Rw Int, a = i8row r ∧ r.l.length ≤ 1048576 ∧ ∀ x ∈ r.l, -128 ≤ x ∧ x ≤ 127 := by
  obtain ⟨l, rfl, b1, b2⟩ := arg_ints ha hb
  exact ⟨⟨l, false⟩, rfl, b1, fun x hx => i8_range (b2 x hx)⟩
theorem arg_u16s {a : AV} (ha : TArg (.slice 1 (.int .u16)) a) (hb : a.argBulk ≤ 1048576) : ∃ r : Rw Int, a = u16row r ∧ r.l.length ≤ 1048576 ∧ ∀ x ∈ r.l, 0 ≤ x ∧ x ≤ 65535 := by
  obtain ⟨l, rfl, b1, b2⟩ := arg_ints ha hb
  exact ⟨⟨l, false⟩, rfl, b1, fun x hx => u16_range (b2 x hx)⟩
@[reducible] def spanT : Ty := .struct [.int .i64, .int .i64]
@[reducible] def dfaT : Ty := .struct [.slice 1 (.slice 2 spanT), .slice 1 (.slice 1 (.int .i64)), .slice 1 (.int .i64)]
theorem arg_i64s {a : AV} (ha : TArg (.slice 1 (.int .i64)) a) (hb : a.argBulk ≤ 1048576) : ∃ r : Rw Int, a = r.iv ∧ r.l.length ≤ 1048576 := by
  obtain ⟨l, rfl, b1, b2⟩ := arg_ints ha hb
  exact ⟨⟨l, false⟩, rfl, b1⟩
def SpanIn (s : Span) : Prop := -9223372036854775808 ≤ s.lo ∧ s.lo ≤ 9223372036854775807 ∧ -9223372036854775808 ≤ s.hi ∧ s.hi ≤ 9223372036854775807
theorem span_dec {c : List AV} (hc : TV spanT c) : ∃ s : Span, c = s.av ∧ SpanIn s := by
  cases hc with
  | struct h =>
    cases h with
    | cons h1 h =>
      cases h with
      | cons h2 h =>
        cases h
        obtain ⟨x, rfl, b1⟩ := int_dec h1
        obtain ⟨y, rfl, b2⟩ := int_dec h2
        have b1 := i64_range b1
        have b2 := i64_range b2
        exact ⟨⟨x, y⟩, rfl, b1.1, b1.2, b2.1, b2.2⟩
theorem spans_dec {c : List AV} (hc : TV (.slice 2 spanT) c) (hb : AV.bulkL c ≤ 1048576) : ∃ r : Rw Span, c = [r.sv] ∧ (r.l.length ≤ 1048576 ∧ ∀ s ∈ r.l, SpanIn s) := by
  obtain ⟨l, rfl, b1, b2⟩ := slice_dec (B := 1048576) (f := Span.av) (P := SpanIn) (by omega) (fun c h _ => span_dec h) hc hb
  exact ⟨⟨l, false⟩, rfl, b1, b2⟩
theorem row64_dec {c : List AV} (hc : TV (.slice 1 (.int .i64)) c) (hb : AV.bulkL c ≤ 1048576) : ∃ r : Rw Int, c = [r.iv] ∧ r.l.length ≤ 1048576 := by
  obtain ⟨l, rfl, b1, b2⟩ := ints_dec (B := 1048576) hc hb
  exact ⟨⟨l, false⟩, rfl, b1⟩
theorem arg_dfa {a : AV} (ha : TArg dfaT a) (hb : a.argBulk ≤ 1048576) : ∃ d : Dfa, a = .agg d.av ∧ GivenD d := by
  cases ha with
  | cell h hne => exact absurd rfl (hne _)
  | struct h =>
    cases h with
    | cons h1 h =>
      cases h with
      | cons h2 h =>
        cases h with
        | cons h3 h =>
          cases h
          simp only [AV.argBulk, AV.bulkL_append] at hb
          obtain ⟨p, rfl, b1, b2⟩ := slice_dec1 (B := 1048576) (g := Rw.sv) (fun c h hb => spans_dec h hb) h1 (by omega)
          obtain ⟨n, rfl, b3, b4⟩ := slice_dec1 (B := 1048576) (g := Rw.iv) (fun c h hb => row64_dec h hb) h2 (by omega)
          obtain ⟨t, rfl, b5⟩ := row64_dec h3 (by omega)
          exact ⟨⟨⟨p, false⟩, ⟨n, false⟩, t⟩, rfl, ⟨b5, b1, b3, fun q hq => (b2 q hq).1, b4, fun q hq => (b2 q hq).2⟩⟩
theorem dfaSounds_args {Φ : Lib} (L : LibC3 Φ) (L1 : C1Lib Φ) (L2 : C2Lib Φ) (L4 : LibC4 Φ) (SL : SortLib Φ) (G : GrowLib Φ) (L5 : LibC5 Φ) (KL : KeyLib Φ) (xs : List AV) (ha : TArgs [dfaT, u16sT, .int .u8, i8sT, i8sT, .slice 1 (.int .i64), .slice 1 (.int .u16)] xs) (hb : AV.argsBulk xs ≤ 1048576) : Runs Φ 164 xs Heap.empty (fun v _ => v = .bool true) := by
  cases ha with | cons a1 ha => cases ha with | cons a2 ha => cases ha with | cons a3 ha => cases ha with | cons a4 ha => cases ha with | cons a5 ha => cases ha with | cons a6 ha => cases ha with | cons a7 ha =>
  cases ha
  simp only [AV.argsBulk] at hb
  obtain ⟨d, rfl, hd⟩ := arg_dfa a1 (by omega)
  obtain ⟨c, rfl, c1, c2⟩ := arg_rows16 a2 (by omega)
  obtain ⟨k, rfl, c3⟩ := arg_int a3
  obtain ⟨next, rfl, c4, c5⟩ := arg_i8s a4 (by omega)
  obtain ⟨tags, rfl, c6, c7⟩ := arg_i8s a5 (by omega)
  obtain ⟨s, rfl, c8⟩ := arg_i64s a6 (by omega)
  obtain ⟨r, rfl, c9, c10⟩ := arg_u16s a7 (by omega)
  exact dfaSounds_ok L L1 L2 SL G L5 KL d hd c k next tags ⟨c1, c2, u8_range c3, c4, c5, c6, c7⟩ s r c8 c9 c10
end Go.Proofs.YtdldfflfbfpngaaGreatDoor
