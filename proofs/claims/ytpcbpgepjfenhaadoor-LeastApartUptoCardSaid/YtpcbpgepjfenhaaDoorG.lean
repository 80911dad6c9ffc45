/- The seat's functions: numbers, and their code. Written by program. -/
import Derived.Test.YtpcbpgepjfenhaaDoorRows
import Derived.Test.YtpcbpgepjfenhaaDoorA7
import Derived.Test.YtpcbpgepjfenhaaDoorC
import Derived.Test.YtpcbpgepjfenhaaDoorCC
namespace Go.Proofs.YtpcbpgepjfenhaaDoor
open Go

def seatTab : List (Nat × FuncId) := [(154, 5), (94, 7), (156, 8), (95, 9), (22, 14), (97, 15), (100, 16), (101, 17), (102, 18), (103, 19), (104, 20), (105, 21), (106, 22), (107, 23), (109, 26), (34, 30), (108, 31), (110, 32), (111, 33), (113, 34), (114, 35), (40, 36), (115, 37), (116, 38), (117, 39), (118, 40), (119, 41), (120, 42), (45, 45), (31, 46), (37, 47), (38, 48), (122, 49), (52, 50), (123, 51), (124, 52), (125, 53), (57, 57), (58, 58), (44, 59), (46, 60), (47, 61), (48, 62), (127, 64), (128, 65), (59, 76), (140, 81), (146, 97), (1, 2), (152, 3), (153, 4), (155, 6), (157, 10), (158, 11), (159, 12), (160, 13), (32, 24), (33, 25), (161, 27), (162, 28), (112, 29), (121, 43), (50, 44), (126, 54), (56, 55), (61, 56), (49, 63), (129, 66), (130, 67), (131, 68), (132, 69), (133, 70), (134, 71), (135, 72), (136, 73), (72, 74), (73, 75), (60, 77), (137, 78), (138, 79), (139, 80), (141, 82), (83, 83), (84, 84), (142, 85), (143, 86), (74, 87), (75, 88), (76, 89), (77, 90), (78, 91), (79, 92), (80, 93), (81, 94), (144, 95), (145, 96), (147, 98), (148, 99), (87, 100), (88, 101), (89, 102), (149, 103), (150, 104), (91, 105), (151, 128)]
def seatLib (E : Nat → Ext) : List (Nat × DFun) := [(154, .code d_glyphcutter_glyphcutterlaw12_LeastApart),
  (94, .code d_glyphcutter_glyphcutterlaw12_known),
  (156, .code d_glyphcutter_glyphcutterlaw11_Make),
  (95, .code d_glyphcutter_least_Of),
  (22, .code d_glyphcutter_glyphcutterlaw01_Make),
  (97, .code d_glyphcutter_glyphcutterref10_Of),
  (100, .code d_glyphcutter_dfa_Sound),
  (101, .code d_glyphcutter_least_pruned),
  (102, .code d_glyphcutter_least_bare),
  (103, .code d___glyphcutter_least_work__refine),
  (104, .code d___glyphcutter_least_work__joined),
  (105, .code d___glyphcutter_least_work__reach),
  (106, .code d_slices_Clone___glyphcutter_api_Span_glyphcutter_api_Span_),
  (107, .code d___glyphcutter_least_work__kind),
  (109, .code d_glyphcutter_glyphcutterref01_Inter),
  (34, .code d_glyphcutter_glyphcutterlaw01_place),
  (108, .code d_glyphcutter_glyphcutterref10_some),
  (110, .code d_glyphcutter_glyphcutterref01_Minus),
  (111, .code d_glyphcutter_glyphcutterref10_sorted),
  (113, .code d_glyphcutter_dfa_apart),
  (114, .code d_glyphcutter_dfa_Sound_1),
  (40, .code d_slices_ContainsFunc___int_int_),
  (115, .code d_glyphcutter_least_live),
  (116, .code d_slices_Clone___int_int_),
  (117, .code d___glyphcutter_least_work__round),
  (118, .code d_strconv_AppendInt),
  (119, .code d_glyphcutter_set_Union),
  (120, .ext (E 120)),
  (45, .code d_glyphcutter_glyphcutterref01_Make),
  (31, .code d_glyphcutter_glyphcutterref01_Has),
  (37, .code d_slices_Equal___glyphcutter_api_Span_glyphcutter_api_Span_),
  (38, .code d_glyphcutter_set_Norm),
  (122, .code d_glyphcutter_set_Size),
  (52, .code d_slices_IndexFunc___int_int_),
  (123, .code d___glyphcutter_least_work__text),
  (124, .code d_internal_strconv_AppendInt),
  (125, .code d_slices_Concat___glyphcutter_api_Span_glyphcutter_api_Span_),
  (57, .code d_glyphcutter_glyphcutterref01_edges),
  (58, .code d_glyphcutter_glyphcutterref01_lay),
  (44, .code d_glyphcutter_glyphcutterref01_scalar),
  (46, .code d_slices_AppendSeq___glyphcutter_api_Span_glyphcutter_api_Span_),
  (47, .code d_glyphcutter_set_pieces),
  (48, .ext (E 48)),
  (127, .code d_internal_strconv_AppendUint),
  (128, .ext (E 128)),
  (59, .code d_glyphcutter_set_pieces_1),
  (140, .code d_internal_strconv_formatBits),
  (146, .code d_internal_strconv_isPowerOfTwo),
  (42, .ext (E 42))]
theorem seat_tab : seatOk Tryd.prog seatTab = true := by kernel_rfl
theorem seat_c154 : (Tryd.prog.funcs[5]?).bind (cFunc (numOf seatTab) Tryd.prog) = some d_glyphcutter_glyphcutterlaw12_LeastApart := by kernel_rfl
theorem seat_c94 : (Tryd.prog.funcs[7]?).bind (cFunc (numOf seatTab) Tryd.prog) = some d_glyphcutter_glyphcutterlaw12_known := by kernel_rfl
theorem seat_c156 : (Tryd.prog.funcs[8]?).bind (cFunc (numOf seatTab) Tryd.prog) = some d_glyphcutter_glyphcutterlaw11_Make := by kernel_rfl
theorem seat_c95 : (Tryd.prog.funcs[9]?).bind (cFunc (numOf seatTab) Tryd.prog) = some d_glyphcutter_least_Of := by kernel_rfl
theorem seat_c22 : (Tryd.prog.funcs[14]?).bind (cFunc (numOf seatTab) Tryd.prog) = some d_glyphcutter_glyphcutterlaw01_Make := by kernel_rfl
theorem seat_c97 : (Tryd.prog.funcs[15]?).bind (cFunc (numOf seatTab) Tryd.prog) = some d_glyphcutter_glyphcutterref10_Of := by kernel_rfl
theorem seat_c100 : (Tryd.prog.funcs[16]?).bind (cFunc (numOf seatTab) Tryd.prog) = some d_glyphcutter_dfa_Sound := by kernel_rfl
theorem seat_c101 : (Tryd.prog.funcs[17]?).bind (cFunc (numOf seatTab) Tryd.prog) = some d_glyphcutter_least_pruned := by kernel_rfl
theorem seat_c102 : (Tryd.prog.funcs[18]?).bind (cFunc (numOf seatTab) Tryd.prog) = some d_glyphcutter_least_bare := by kernel_rfl
theorem seat_c103 : (Tryd.prog.funcs[19]?).bind (cFunc (numOf seatTab) Tryd.prog) = some d___glyphcutter_least_work__refine := by kernel_rfl
theorem seat_c104 : (Tryd.prog.funcs[20]?).bind (cFunc (numOf seatTab) Tryd.prog) = some d___glyphcutter_least_work__joined := by kernel_rfl
theorem seat_c105 : (Tryd.prog.funcs[21]?).bind (cFunc (numOf seatTab) Tryd.prog) = some d___glyphcutter_least_work__reach := by kernel_rfl
theorem seat_c106 : (Tryd.prog.funcs[22]?).bind (cFunc (numOf seatTab) Tryd.prog) = some d_slices_Clone___glyphcutter_api_Span_glyphcutter_api_Span_ := by kernel_rfl
theorem seat_c107 : (Tryd.prog.funcs[23]?).bind (cFunc (numOf seatTab) Tryd.prog) = some d___glyphcutter_least_work__kind := by kernel_rfl
theorem seat_c109 : (Tryd.prog.funcs[26]?).bind (cFunc (numOf seatTab) Tryd.prog) = some d_glyphcutter_glyphcutterref01_Inter := by kernel_rfl
theorem seat_c34 : (Tryd.prog.funcs[30]?).bind (cFunc (numOf seatTab) Tryd.prog) = some d_glyphcutter_glyphcutterlaw01_place := by kernel_rfl
theorem seat_c108 : (Tryd.prog.funcs[31]?).bind (cFunc (numOf seatTab) Tryd.prog) = some d_glyphcutter_glyphcutterref10_some := by kernel_rfl
theorem seat_c110 : (Tryd.prog.funcs[32]?).bind (cFunc (numOf seatTab) Tryd.prog) = some d_glyphcutter_glyphcutterref01_Minus := by kernel_rfl
theorem seat_c111 : (Tryd.prog.funcs[33]?).bind (cFunc (numOf seatTab) Tryd.prog) = some d_glyphcutter_glyphcutterref10_sorted := by kernel_rfl
theorem seat_c113 : (Tryd.prog.funcs[34]?).bind (cFunc (numOf seatTab) Tryd.prog) = some d_glyphcutter_dfa_apart := by kernel_rfl
theorem seat_c114 : (Tryd.prog.funcs[35]?).bind (cFunc (numOf seatTab) Tryd.prog) = some d_glyphcutter_dfa_Sound_1 := by kernel_rfl
theorem seat_c40 : (Tryd.prog.funcs[36]?).bind (cFunc (numOf seatTab) Tryd.prog) = some d_slices_ContainsFunc___int_int_ := by kernel_rfl
theorem seat_c115 : (Tryd.prog.funcs[37]?).bind (cFunc (numOf seatTab) Tryd.prog) = some d_glyphcutter_least_live := by kernel_rfl
theorem seat_c116 : (Tryd.prog.funcs[38]?).bind (cFunc (numOf seatTab) Tryd.prog) = some d_slices_Clone___int_int_ := by kernel_rfl
theorem seat_c117 : (Tryd.prog.funcs[39]?).bind (cFunc (numOf seatTab) Tryd.prog) = some d___glyphcutter_least_work__round := by kernel_rfl
theorem seat_c118 : (Tryd.prog.funcs[40]?).bind (cFunc (numOf seatTab) Tryd.prog) = some d_strconv_AppendInt := by kernel_rfl
theorem seat_c119 : (Tryd.prog.funcs[41]?).bind (cFunc (numOf seatTab) Tryd.prog) = some d_glyphcutter_set_Union := by kernel_rfl
theorem seat_c45 : (Tryd.prog.funcs[45]?).bind (cFunc (numOf seatTab) Tryd.prog) = some d_glyphcutter_glyphcutterref01_Make := by kernel_rfl
theorem seat_c31 : (Tryd.prog.funcs[46]?).bind (cFunc (numOf seatTab) Tryd.prog) = some d_glyphcutter_glyphcutterref01_Has := by kernel_rfl
theorem seat_c37 : (Tryd.prog.funcs[47]?).bind (cFunc (numOf seatTab) Tryd.prog) = some d_slices_Equal___glyphcutter_api_Span_glyphcutter_api_Span_ := by kernel_rfl
theorem seat_c38 : (Tryd.prog.funcs[48]?).bind (cFunc (numOf seatTab) Tryd.prog) = some d_glyphcutter_set_Norm := by kernel_rfl
theorem seat_c122 : (Tryd.prog.funcs[49]?).bind (cFunc (numOf seatTab) Tryd.prog) = some d_glyphcutter_set_Size := by kernel_rfl
theorem seat_c52 : (Tryd.prog.funcs[50]?).bind (cFunc (numOf seatTab) Tryd.prog) = some d_slices_IndexFunc___int_int_ := by kernel_rfl
theorem seat_c123 : (Tryd.prog.funcs[51]?).bind (cFunc (numOf seatTab) Tryd.prog) = some d___glyphcutter_least_work__text := by kernel_rfl
theorem seat_c124 : (Tryd.prog.funcs[52]?).bind (cFunc (numOf seatTab) Tryd.prog) = some d_internal_strconv_AppendInt := by kernel_rfl
theorem seat_c125 : (Tryd.prog.funcs[53]?).bind (cFunc (numOf seatTab) Tryd.prog) = some d_slices_Concat___glyphcutter_api_Span_glyphcutter_api_Span_ := by kernel_rfl
theorem seat_c57 : (Tryd.prog.funcs[57]?).bind (cFunc (numOf seatTab) Tryd.prog) = some d_glyphcutter_glyphcutterref01_edges := by kernel_rfl
theorem seat_c58 : (Tryd.prog.funcs[58]?).bind (cFunc (numOf seatTab) Tryd.prog) = some d_glyphcutter_glyphcutterref01_lay := by kernel_rfl
theorem seat_c44 : (Tryd.prog.funcs[59]?).bind (cFunc (numOf seatTab) Tryd.prog) = some d_glyphcutter_glyphcutterref01_scalar := by kernel_rfl
theorem seat_c46 : (Tryd.prog.funcs[60]?).bind (cFunc (numOf seatTab) Tryd.prog) = some d_slices_AppendSeq___glyphcutter_api_Span_glyphcutter_api_Span_ := by kernel_rfl
theorem seat_c47 : (Tryd.prog.funcs[61]?).bind (cFunc (numOf seatTab) Tryd.prog) = some d_glyphcutter_set_pieces := by kernel_rfl
theorem seat_c127 : (Tryd.prog.funcs[64]?).bind (cFunc (numOf seatTab) Tryd.prog) = some d_internal_strconv_AppendUint := by kernel_rfl
theorem seat_c59 : (Tryd.prog.funcs[76]?).bind (cFunc (numOf seatTab) Tryd.prog) = some d_glyphcutter_set_pieces_1 := by kernel_rfl
theorem seat_c140 : (Tryd.prog.funcs[81]?).bind (cFunc (numOf seatTab) Tryd.prog) = some d_internal_strconv_formatBits := by kernel_rfl
theorem seat_c146 : (Tryd.prog.funcs[97]?).bind (cFunc (numOf seatTab) Tryd.prog) = some d_internal_strconv_isPowerOfTwo := by kernel_rfl
theorem seat_codes (E : Nat → Ext) : codesOk Tryd.prog seatTab (seatLib E) :=
  ⟨.inr ⟨5, by kernel_rfl, seat_c154⟩,
  .inr ⟨7, by kernel_rfl, seat_c94⟩,
  .inr ⟨8, by kernel_rfl, seat_c156⟩,
  .inr ⟨9, by kernel_rfl, seat_c95⟩,
  .inr ⟨14, by kernel_rfl, seat_c22⟩,
  .inr ⟨15, by kernel_rfl, seat_c97⟩,
  .inr ⟨16, by kernel_rfl, seat_c100⟩,
  .inr ⟨17, by kernel_rfl, seat_c101⟩,
  .inr ⟨18, by kernel_rfl, seat_c102⟩,
  .inr ⟨19, by kernel_rfl, seat_c103⟩,
  .inr ⟨20, by kernel_rfl, seat_c104⟩,
  .inr ⟨21, by kernel_rfl, seat_c105⟩,
  .inr ⟨22, by kernel_rfl, seat_c106⟩,
  .inr ⟨23, by kernel_rfl, seat_c107⟩,
  .inr ⟨26, by kernel_rfl, seat_c109⟩,
  .inr ⟨30, by kernel_rfl, seat_c34⟩,
  .inr ⟨31, by kernel_rfl, seat_c108⟩,
  .inr ⟨32, by kernel_rfl, seat_c110⟩,
  .inr ⟨33, by kernel_rfl, seat_c111⟩,
  .inr ⟨34, by kernel_rfl, seat_c113⟩,
  .inr ⟨35, by kernel_rfl, seat_c114⟩,
  .inr ⟨36, by kernel_rfl, seat_c40⟩,
  .inr ⟨37, by kernel_rfl, seat_c115⟩,
  .inr ⟨38, by kernel_rfl, seat_c116⟩,
  .inr ⟨39, by kernel_rfl, seat_c117⟩,
  .inr ⟨40, by kernel_rfl, seat_c118⟩,
  .inr ⟨41, by kernel_rfl, seat_c119⟩,
  .inr ⟨45, by kernel_rfl, seat_c45⟩,
  .inr ⟨46, by kernel_rfl, seat_c31⟩,
  .inr ⟨47, by kernel_rfl, seat_c37⟩,
  .inr ⟨48, by kernel_rfl, seat_c38⟩,
  .inr ⟨49, by kernel_rfl, seat_c122⟩,
  .inr ⟨50, by kernel_rfl, seat_c52⟩,
  .inr ⟨51, by kernel_rfl, seat_c123⟩,
  .inr ⟨52, by kernel_rfl, seat_c124⟩,
  .inr ⟨53, by kernel_rfl, seat_c125⟩,
  .inr ⟨57, by kernel_rfl, seat_c57⟩,
  .inr ⟨58, by kernel_rfl, seat_c58⟩,
  .inr ⟨59, by kernel_rfl, seat_c44⟩,
  .inr ⟨60, by kernel_rfl, seat_c46⟩,
  .inr ⟨61, by kernel_rfl, seat_c47⟩,
  .inr ⟨64, by kernel_rfl, seat_c127⟩,
  .inr ⟨76, by kernel_rfl, seat_c59⟩,
  .inr ⟨81, by kernel_rfl, seat_c140⟩,
  .inr ⟨97, by kernel_rfl, seat_c146⟩, trivial⟩

end Go.Proofs.YtpcbpgepjfenhaaDoor
