/- The seat's functions: numbers, and their code. Written by program. The seat's library: each function is its code; sorting by the kit's contracts. -/
import Derived.Test.YtpcbpgepjfenhaaRows
import Derived.Test.YtpcbpgepjfenhaaA7
import Derived.Test.YtpcbpgepjfenhaaC
import Derived.Test.YtpcbpgepjfenhaaA8
import Derived.Test.YtpcbpgepjfenhaaD2
import Derived.Test.YtpcbpgepjfenhaaLaid
import Derived.WalkKit
import Derived.ProofKit
import Derived.ChangeBears
namespace Go.Proofs.Ytpcbpgepjfenhaa
open Go

def seatTab : List (Nat × FuncId) := [(41, 42), (54, 55), (53, 54), (62, 63), (40, 41), (52, 53), (39, 40), (51, 52), (35, 36), (36, 37), (24, 25), (38, 39), (47, 48), (59, 60), (46, 47), (37, 38), (26, 27), (27, 28), (28, 29), (12, 13), (25, 26), (9, 10), (30, 31), (16, 17), (19, 20), (43, 44), (44, 45), (31, 32), (32, 33), (58, 59), (57, 58), (45, 46), (33, 34), (21, 22), (29, 30), (15, 16), (18, 19), (17, 18), (20, 21), (34, 35), (22, 23), (23, 24), (14, 15), (13, 14), (10, 11), (11, 12), (8, 9), (7, 8), (2, 3), (3, 4), (4, 5), (5, 6), (6, 7), (42, 43), (48, 49), (49, 50)]
def seatLib (E : Nat → Ext) : List (Nat × DFun) := [(41, .code d_glyphcutter_set_Has),
  (54, .code d_glyphcutter_set_Has_1),
  (53, .code d_slices_ContainsFunc___glyphcutter_api_Span_glyphcutter_api_Span_),
  (62, .code d_slices_IndexFunc___glyphcutter_api_Span_glyphcutter_api_Span_),
  (40, .code d_slices_ContainsFunc___int_int_),
  (52, .code d_slices_IndexFunc___int_int_),
  (39, .code d_slices_ContainsFunc___glyphcutter_api_Edge_glyphcutter_api_Edge_),
  (51, .code d_slices_IndexFunc___glyphcutter_api_Edge_glyphcutter_api_Edge_),
  (35, .code d_glyphcutter_nfa_Sound_1),
  (36, .code d_glyphcutter_nfa_Sound_2),
  (24, .code d_glyphcutter_nfa_Sound),
  (38, .code d_glyphcutter_set_Norm),
  (47, .code d_glyphcutter_set_pieces),
  (59, .code d_glyphcutter_set_pieces_1),
  (46, .code d_slices_AppendSeq___glyphcutter_api_Span_glyphcutter_api_Span_),
  (37, .code d_slices_Equal___glyphcutter_api_Span_glyphcutter_api_Span_),
  (26, .code d_glyphcutter_sim_begin),
  (27, .code d___glyphcutter_sim_marks__reach),
  (28, .code d___glyphcutter_sim_marks__all),
  (12, .code d_glyphcutter_sim_Start),
  (25, .code d_glyphcutter_sim_step),
  (9, .code d_glyphcutter_sim_Step),
  (30, .code d_glyphcutter_sim_tags),
  (16, .code d_glyphcutter_sim_Tags),
  (19, .code d_glyphcutter_sim_Longest),
  (43, .code d_slices_Compact___int_int_),
  (44, .code d_glyphcutter_glyphcutterref01_scalar),
  (31, .code d_glyphcutter_glyphcutterref01_Has),
  (32, .code d_glyphcutter_glyphcutterref01_Alike),
  (58, .code d_glyphcutter_glyphcutterref01_lay),
  (57, .code d_glyphcutter_glyphcutterref01_edges),
  (45, .code d_glyphcutter_glyphcutterref01_Make),
  (33, .code d_glyphcutter_glyphcutterref01_Norm),
  (21, .code d_glyphcutter_glyphcutterref08_Sound),
  (29, .code d_glyphcutter_glyphcutterref09_closed),
  (15, .code d_glyphcutter_glyphcutterref09_Start),
  (18, .code d_glyphcutter_glyphcutterref09_Step),
  (17, .code d_glyphcutter_glyphcutterref09_Tags),
  (20, .code d_glyphcutter_glyphcutterref09_Longest),
  (34, .code d_glyphcutter_glyphcutterlaw01_place),
  (22, .code d_glyphcutter_glyphcutterlaw01_Make),
  (23, .code d_glyphcutter_glyphcutterlaw09_norm),
  (14, .code d_glyphcutter_glyphcutterlaw09_same),
  (13, .code d_glyphcutter_glyphcutterlaw09_scalars),
  (10, .code d_glyphcutter_glyphcutterlaw09_within),
  (11, .code d_glyphcutter_glyphcutterlaw09_each),
  (8, .code d_glyphcutter_glyphcutterlaw09_Machine),
  (7, .code d_glyphcutter_glyphcutterlaw09_known),
  (2, .code d_glyphcutter_glyphcutterlaw09_SimStates),
  (3, .code d_glyphcutter_glyphcutterlaw09_SimFree),
  (4, .code d_glyphcutter_glyphcutterlaw09_SimGoes),
  (5, .code d_glyphcutter_glyphcutterlaw09_SimBad),
  (6, .code d_glyphcutter_glyphcutterlaw09_SimFronts),
  (42, .ext (E 42)),
  (48, .ext (E 48))]
theorem seat_tab : seatOk Try.prog seatTab = true := by kernel_rfl
theorem seat_c41 : (Try.prog.funcs[42]?).bind (cFunc (numOf seatTab) Try.prog) = some d_glyphcutter_set_Has := by kernel_rfl
theorem seat_c54 : (Try.prog.funcs[55]?).bind (cFunc (numOf seatTab) Try.prog) = some d_glyphcutter_set_Has_1 := by kernel_rfl
theorem seat_c53 : (Try.prog.funcs[54]?).bind (cFunc (numOf seatTab) Try.prog) = some d_slices_ContainsFunc___glyphcutter_api_Span_glyphcutter_api_Span_ := by kernel_rfl
theorem seat_c62 : (Try.prog.funcs[63]?).bind (cFunc (numOf seatTab) Try.prog) = some d_slices_IndexFunc___glyphcutter_api_Span_glyphcutter_api_Span_ := by kernel_rfl
theorem seat_c40 : (Try.prog.funcs[41]?).bind (cFunc (numOf seatTab) Try.prog) = some d_slices_ContainsFunc___int_int_ := by kernel_rfl
theorem seat_c52 : (Try.prog.funcs[53]?).bind (cFunc (numOf seatTab) Try.prog) = some d_slices_IndexFunc___int_int_ := by kernel_rfl
theorem seat_c39 : (Try.prog.funcs[40]?).bind (cFunc (numOf seatTab) Try.prog) = some d_slices_ContainsFunc___glyphcutter_api_Edge_glyphcutter_api_Edge_ := by kernel_rfl
theorem seat_c51 : (Try.prog.funcs[52]?).bind (cFunc (numOf seatTab) Try.prog) = some d_slices_IndexFunc___glyphcutter_api_Edge_glyphcutter_api_Edge_ := by kernel_rfl
theorem seat_c35 : (Try.prog.funcs[36]?).bind (cFunc (numOf seatTab) Try.prog) = some d_glyphcutter_nfa_Sound_1 := by kernel_rfl
theorem seat_c36 : (Try.prog.funcs[37]?).bind (cFunc (numOf seatTab) Try.prog) = some d_glyphcutter_nfa_Sound_2 := by kernel_rfl
theorem seat_c24 : (Try.prog.funcs[25]?).bind (cFunc (numOf seatTab) Try.prog) = some d_glyphcutter_nfa_Sound := by kernel_rfl
theorem seat_c38 : (Try.prog.funcs[39]?).bind (cFunc (numOf seatTab) Try.prog) = some d_glyphcutter_set_Norm := by kernel_rfl
theorem seat_c47 : (Try.prog.funcs[48]?).bind (cFunc (numOf seatTab) Try.prog) = some d_glyphcutter_set_pieces := by kernel_rfl
theorem seat_c59 : (Try.prog.funcs[60]?).bind (cFunc (numOf seatTab) Try.prog) = some d_glyphcutter_set_pieces_1 := by kernel_rfl
theorem seat_c46 : (Try.prog.funcs[47]?).bind (cFunc (numOf seatTab) Try.prog) = some d_slices_AppendSeq___glyphcutter_api_Span_glyphcutter_api_Span_ := by kernel_rfl
theorem seat_c37 : (Try.prog.funcs[38]?).bind (cFunc (numOf seatTab) Try.prog) = some d_slices_Equal___glyphcutter_api_Span_glyphcutter_api_Span_ := by kernel_rfl
theorem seat_c26 : (Try.prog.funcs[27]?).bind (cFunc (numOf seatTab) Try.prog) = some d_glyphcutter_sim_begin := by kernel_rfl
theorem seat_c27 : (Try.prog.funcs[28]?).bind (cFunc (numOf seatTab) Try.prog) = some d___glyphcutter_sim_marks__reach := by kernel_rfl
theorem seat_c28 : (Try.prog.funcs[29]?).bind (cFunc (numOf seatTab) Try.prog) = some d___glyphcutter_sim_marks__all := by kernel_rfl
theorem seat_c12 : (Try.prog.funcs[13]?).bind (cFunc (numOf seatTab) Try.prog) = some d_glyphcutter_sim_Start := by kernel_rfl
theorem seat_c25 : (Try.prog.funcs[26]?).bind (cFunc (numOf seatTab) Try.prog) = some d_glyphcutter_sim_step := by kernel_rfl
theorem seat_c9 : (Try.prog.funcs[10]?).bind (cFunc (numOf seatTab) Try.prog) = some d_glyphcutter_sim_Step := by kernel_rfl
theorem seat_c30 : (Try.prog.funcs[31]?).bind (cFunc (numOf seatTab) Try.prog) = some d_glyphcutter_sim_tags := by kernel_rfl
theorem seat_c16 : (Try.prog.funcs[17]?).bind (cFunc (numOf seatTab) Try.prog) = some d_glyphcutter_sim_Tags := by kernel_rfl
theorem seat_c19 : (Try.prog.funcs[20]?).bind (cFunc (numOf seatTab) Try.prog) = some d_glyphcutter_sim_Longest := by kernel_rfl
theorem seat_c43 : (Try.prog.funcs[44]?).bind (cFunc (numOf seatTab) Try.prog) = some d_slices_Compact___int_int_ := by kernel_rfl
theorem seat_c44 : (Try.prog.funcs[45]?).bind (cFunc (numOf seatTab) Try.prog) = some d_glyphcutter_glyphcutterref01_scalar := by kernel_rfl
theorem seat_c31 : (Try.prog.funcs[32]?).bind (cFunc (numOf seatTab) Try.prog) = some d_glyphcutter_glyphcutterref01_Has := by kernel_rfl
theorem seat_c32 : (Try.prog.funcs[33]?).bind (cFunc (numOf seatTab) Try.prog) = some d_glyphcutter_glyphcutterref01_Alike := by kernel_rfl
theorem seat_c58 : (Try.prog.funcs[59]?).bind (cFunc (numOf seatTab) Try.prog) = some d_glyphcutter_glyphcutterref01_lay := by kernel_rfl
theorem seat_c57 : (Try.prog.funcs[58]?).bind (cFunc (numOf seatTab) Try.prog) = some d_glyphcutter_glyphcutterref01_edges := by kernel_rfl
theorem seat_c45 : (Try.prog.funcs[46]?).bind (cFunc (numOf seatTab) Try.prog) = some d_glyphcutter_glyphcutterref01_Make := by kernel_rfl
theorem seat_c33 : (Try.prog.funcs[34]?).bind (cFunc (numOf seatTab) Try.prog) = some d_glyphcutter_glyphcutterref01_Norm := by kernel_rfl
theorem seat_c21 : (Try.prog.funcs[22]?).bind (cFunc (numOf seatTab) Try.prog) = some d_glyphcutter_glyphcutterref08_Sound := by kernel_rfl
theorem seat_c29 : (Try.prog.funcs[30]?).bind (cFunc (numOf seatTab) Try.prog) = some d_glyphcutter_glyphcutterref09_closed := by kernel_rfl
theorem seat_c15 : (Try.prog.funcs[16]?).bind (cFunc (numOf seatTab) Try.prog) = some d_glyphcutter_glyphcutterref09_Start := by kernel_rfl
theorem seat_c18 : (Try.prog.funcs[19]?).bind (cFunc (numOf seatTab) Try.prog) = some d_glyphcutter_glyphcutterref09_Step := by kernel_rfl
theorem seat_c17 : (Try.prog.funcs[18]?).bind (cFunc (numOf seatTab) Try.prog) = some d_glyphcutter_glyphcutterref09_Tags := by kernel_rfl
theorem seat_c20 : (Try.prog.funcs[21]?).bind (cFunc (numOf seatTab) Try.prog) = some d_glyphcutter_glyphcutterref09_Longest := by kernel_rfl
theorem seat_c34 : (Try.prog.funcs[35]?).bind (cFunc (numOf seatTab) Try.prog) = some d_glyphcutter_glyphcutterlaw01_place := by kernel_rfl
theorem seat_c22 : (Try.prog.funcs[23]?).bind (cFunc (numOf seatTab) Try.prog) = some d_glyphcutter_glyphcutterlaw01_Make := by kernel_rfl
theorem seat_c23 : (Try.prog.funcs[24]?).bind (cFunc (numOf seatTab) Try.prog) = some d_glyphcutter_glyphcutterlaw09_norm := by kernel_rfl
theorem seat_c14 : (Try.prog.funcs[15]?).bind (cFunc (numOf seatTab) Try.prog) = some d_glyphcutter_glyphcutterlaw09_same := by kernel_rfl
theorem seat_c13 : (Try.prog.funcs[14]?).bind (cFunc (numOf seatTab) Try.prog) = some d_glyphcutter_glyphcutterlaw09_scalars := by kernel_rfl
theorem seat_c10 : (Try.prog.funcs[11]?).bind (cFunc (numOf seatTab) Try.prog) = some d_glyphcutter_glyphcutterlaw09_within := by kernel_rfl
theorem seat_c11 : (Try.prog.funcs[12]?).bind (cFunc (numOf seatTab) Try.prog) = some d_glyphcutter_glyphcutterlaw09_each := by kernel_rfl
theorem seat_c8 : (Try.prog.funcs[9]?).bind (cFunc (numOf seatTab) Try.prog) = some d_glyphcutter_glyphcutterlaw09_Machine := by kernel_rfl
theorem seat_c7 : (Try.prog.funcs[8]?).bind (cFunc (numOf seatTab) Try.prog) = some d_glyphcutter_glyphcutterlaw09_known := by kernel_rfl
theorem seat_c2 : (Try.prog.funcs[3]?).bind (cFunc (numOf seatTab) Try.prog) = some d_glyphcutter_glyphcutterlaw09_SimStates := by kernel_rfl
theorem seat_c3 : (Try.prog.funcs[4]?).bind (cFunc (numOf seatTab) Try.prog) = some d_glyphcutter_glyphcutterlaw09_SimFree := by kernel_rfl
theorem seat_c4 : (Try.prog.funcs[5]?).bind (cFunc (numOf seatTab) Try.prog) = some d_glyphcutter_glyphcutterlaw09_SimGoes := by kernel_rfl
theorem seat_c5 : (Try.prog.funcs[6]?).bind (cFunc (numOf seatTab) Try.prog) = some d_glyphcutter_glyphcutterlaw09_SimBad := by kernel_rfl
theorem seat_c6 : (Try.prog.funcs[7]?).bind (cFunc (numOf seatTab) Try.prog) = some d_glyphcutter_glyphcutterlaw09_SimFronts := by kernel_rfl
theorem seat_codes (E : Nat → Ext) : codesOk Try.prog seatTab (seatLib E) :=
  ⟨⟨42, by kernel_rfl, seat_c41⟩,
  ⟨55, by kernel_rfl, seat_c54⟩,
  ⟨54, by kernel_rfl, seat_c53⟩,
  ⟨63, by kernel_rfl, seat_c62⟩,
  ⟨41, by kernel_rfl, seat_c40⟩,
  ⟨53, by kernel_rfl, seat_c52⟩,
  ⟨40, by kernel_rfl, seat_c39⟩,
  ⟨52, by kernel_rfl, seat_c51⟩,
  ⟨36, by kernel_rfl, seat_c35⟩,
  ⟨37, by kernel_rfl, seat_c36⟩,
  ⟨25, by kernel_rfl, seat_c24⟩,
  ⟨39, by kernel_rfl, seat_c38⟩,
  ⟨48, by kernel_rfl, seat_c47⟩,
  ⟨60, by kernel_rfl, seat_c59⟩,
  ⟨47, by kernel_rfl, seat_c46⟩,
  ⟨38, by kernel_rfl, seat_c37⟩,
  ⟨27, by kernel_rfl, seat_c26⟩,
  ⟨28, by kernel_rfl, seat_c27⟩,
  ⟨29, by kernel_rfl, seat_c28⟩,
  ⟨13, by kernel_rfl, seat_c12⟩,
  ⟨26, by kernel_rfl, seat_c25⟩,
  ⟨10, by kernel_rfl, seat_c9⟩,
  ⟨31, by kernel_rfl, seat_c30⟩,
  ⟨17, by kernel_rfl, seat_c16⟩,
  ⟨20, by kernel_rfl, seat_c19⟩,
  ⟨44, by kernel_rfl, seat_c43⟩,
  ⟨45, by kernel_rfl, seat_c44⟩,
  ⟨32, by kernel_rfl, seat_c31⟩,
  ⟨33, by kernel_rfl, seat_c32⟩,
  ⟨59, by kernel_rfl, seat_c58⟩,
  ⟨58, by kernel_rfl, seat_c57⟩,
  ⟨46, by kernel_rfl, seat_c45⟩,
  ⟨34, by kernel_rfl, seat_c33⟩,
  ⟨22, by kernel_rfl, seat_c21⟩,
  ⟨30, by kernel_rfl, seat_c29⟩,
  ⟨16, by kernel_rfl, seat_c15⟩,
  ⟨19, by kernel_rfl, seat_c18⟩,
  ⟨18, by kernel_rfl, seat_c17⟩,
  ⟨21, by kernel_rfl, seat_c20⟩,
  ⟨35, by kernel_rfl, seat_c34⟩,
  ⟨23, by kernel_rfl, seat_c22⟩,
  ⟨24, by kernel_rfl, seat_c23⟩,
  ⟨15, by kernel_rfl, seat_c14⟩,
  ⟨14, by kernel_rfl, seat_c13⟩,
  ⟨11, by kernel_rfl, seat_c10⟩,
  ⟨12, by kernel_rfl, seat_c11⟩,
  ⟨9, by kernel_rfl, seat_c8⟩,
  ⟨8, by kernel_rfl, seat_c7⟩,
  ⟨3, by kernel_rfl, seat_c2⟩,
  ⟨4, by kernel_rfl, seat_c3⟩,
  ⟨5, by kernel_rfl, seat_c4⟩,
  ⟨6, by kernel_rfl, seat_c5⟩,
  ⟨7, by kernel_rfl, seat_c6⟩, trivial⟩

end Go.Proofs.Ytpcbpgepjfenhaa
set_option linter.unusedVariables false
namespace Go.Proofs.Ytpcbpgepjfenhaa
open Go Go.Shelf Go.RowKit Go.Lib Go.Sort

set_option maxHeartbeats 1000000 in
theorem closure50 (x y : Int × Int) (W : World) : Calls Try.prog 50 #[.agg #[.int .i64 x.1, .int .i64 x.2], .agg #[.int .i64 y.1, .int .i64 y.2]] W fun e w' => e = .returned (.int .i64 (Lib.compareInt x.1 y.1)) ∧ ∃ q os', w' = grow (W.drewN q) os' := by
  have hcon := fun W' => AnyG.cmp_Compare_int Try.cmpInt x.1 y.1 W'
  change ∀ W', Calls Try.prog 51 _ _ _ at hcon
  generalize Lib.compareInt x.1 y.1 = r at hcon ⊢
  go_enter Try.func50, Try.ntmps50
  go_wp2_with (go_at_call 51; refine (hcon _).mono ?_; rintro e w' ⟨rfl, rfl⟩)
  go_ret
  exact ⟨rfl, 0, _, by rw [alloc_eq_grow, alloc_eq_grow, grow_grow]; rfl⟩

noncomputable def exts (k : Nat) : Ext := if k = 42 then extSortInts else extSortPairs 49
noncomputable def seatL : Lib := libOf (seatLib exts)

theorem seat_ok : LibOk seatL (phiOf Try.prog seatTab) (numOf seatTab) Try.prog := by
  refine libOk_of (by kernel_rfl) seat_tab (seat_codes exts) fun k fid p hk hl X args vals Q hp hX hv => ?_
  have hkk : (k = 42 ∧ p = extSortInts) ∨ (k = 48 ∧ p = extSortPairs 49) := by
    simp only [libOf, Option.map_eq_some_iff] at hl
    obtain ⟨q, hq, e⟩ := hl
    have hmem := List.mem_of_find?_eq_some hq
    have hk2 : q.1 = k := by simpa using List.find?_some hq
    obtain ⟨a, b⟩ := q
    simp only at e hk2
    subst e hk2
    simp only [seatLib, List.mem_cons, List.not_mem_nil, or_false, Prod.mk.injEq, reduceCtorEq, and_false, false_or, DFun.ext.injEq] at hmem
    rcases hmem with ⟨rfl, rfl⟩ | ⟨rfl, rfl⟩
    · exact .inl ⟨rfl, by simp [exts]⟩
    · exact .inr ⟨rfl, by simp [exts]⟩
  rcases hkk with ⟨rfl, rfl⟩ | ⟨rfl, rfl⟩
  · have : fid = 43 := by
      have h2 : phiFn seatTab 42 = some 43 := by decide
      rw [h2] at hk
      exact (Option.some.inj hk).symm
    subst this
    exact extSortInts_ok Try.sortInts hp hX hv
  · have : fid = 49 := by
      have h2 : phiFn seatTab 48 = some 49 := by decide
      rw [h2] at hk
      exact (Option.some.inj hk).symm
    subst this
    refine extSortPairs_ok Try.sortSpan Try.isAgg52 Try.sizeOf52 (gf := 50) (by decide) (enters_of Try.func50 (by kernel_rfl) rfl) closure50 hp hX hv

theorem seat_lib1 : C1Lib seatL := by
  constructor <;> rfl
theorem seat_lib2 : C2Lib seatL := by
  constructor <;> rfl
theorem seat_sort : SortLib seatL := ⟨by show some (DFun.ext (exts 48)) = _; simp [exts], by show some (DFun.ext (exts 42)) = _; simp [exts]⟩

theorem seat_kids : Kids Try.prog (· < Try.prog.types.size) := kids_rows (by kernel_rfl) (by kernel_rfl)
theorem seat_rows : ((List.range Try.prog.types.size).all fun t => match Try.prog.underlying t with
    | some (.slice e) => decide (0 < Try.prog.cellsOf e)
    | _ => true) = true := by kernel_rfl
theorem seat_sz {t e : TypeId} (ht : t < Try.prog.types.size) (h : Try.prog.underlying t = some (.slice e)) : 0 < Try.prog.cellsOf e := by
  have := List.all_eq_true.1 seat_rows t (List.mem_range.2 ht)
  rw [h] at this
  simpa using this
mutual
theorem upto_bulk {H : Type} : ∀ d : DataW H, Rows.uptoBulk d = dBulk d
  | .lit l => by cases l <;> simp [Rows.uptoBulk, dBulk]
  | .nil => by simp [Rows.uptoBulk, dBulk]
  | .ptr d => by simp [Rows.uptoBulk, dBulk, upto_bulk d]
  | .slice a b => by simp [Rows.uptoBulk, dBulk, upto_bulkAll a, upto_bulkAll b]
  | .agg a => by simp [Rows.uptoBulk, dBulk, upto_bulkAll a]
  | .iface _ d => by simp [Rows.uptoBulk, dBulk, upto_bulk d]
  | .map a => by simp [Rows.uptoBulk, dBulk, upto_bulkEntries a]
  | .held _ => by simp [Rows.uptoBulk, dBulk]
theorem upto_bulkAll {H : Type} : ∀ ds : List (DataW H), Rows.uptoBulkAll ds = dBulkAll ds
  | [] => rfl
  | d :: r => by simp [Rows.uptoBulkAll, dBulkAll, upto_bulk d, upto_bulkAll r]
theorem upto_bulkEntries {H : Type} : ∀ ds : List (Lit × DataW H), Rows.uptoBulkEntries ds = dBulkEntries ds
  | [] => rfl
  | x :: r => by simp [Rows.uptoBulkEntries, dBulkEntries, upto_bulkEntry x, upto_bulkEntries r]
theorem upto_bulkEntry {H : Type} : ∀ x : Lit × DataW H, Rows.uptoBulkEntry x = dBulkEntry x
  | (l, d) => by cases l <;> simp [Rows.uptoBulkEntry, dBulkEntry, upto_bulk d]
end
theorem upto_small {H : Type} {ds : List (DataW H)} (h : Rows.uptoSmall H ds = true) : dBulkAll ds ≤ 1048576 := by
  rw [← upto_bulkAll]
  exact of_decide_eq_true h

end Go.Proofs.Ytpcbpgepjfenhaa
