/- The seat's functions: numbers, and their code. Written by program. -/
import Derived.Test.YtpcbpgepjfenhaaGreatDoorRows
import Derived.Test.YtpcbpgepjfenhaaGreatDoorA7
import Derived.Test.YtpcbpgepjfenhaaGreatDoorC
import Derived.Test.YtpcbpgepjfenhaaGreatDoorCC
namespace Go.Proofs.YtpcbpgepjfenhaaGreatDoor
open Go
def seatTab : List (Nat × FuncId) := [(92, 3), (93, 4), (8, 5), (94, 6), (95, 7), (96, 8), (21, 9), (97, 10), (15, 11), (18, 12), (98, 13), (99, 14), (22, 15), (23, 16), (100, 17), (101, 18), (102, 19), (103, 20), (104, 21), (105, 22), (106, 23), (107, 24), (33, 25), (32, 26), (108, 27), (109, 28), (110, 29), (111, 30), (29, 31), (31, 32), (112, 33), (17, 34), (34, 35), (113, 36), (114, 37), (40, 38), (115, 39), (116, 40), (117, 41), (118, 42), (119, 43), (120, 44), (45, 47), (44, 48), (37, 49), (38, 50), (122, 51), (52, 52), (123, 53), (124, 54), (125, 55), (57, 59), (58, 60), (46, 61), (47, 62), (48, 63), (127, 65), (128, 66), (59, 77), (140, 82), (146, 98), (1, 2), (121, 45), (50, 46), (126, 56), (56, 57), (61, 58), (49, 64), (129, 67), (130, 68), (131, 69), (132, 70), (133, 71), (134, 72), (135, 73), (136, 74), (72, 75), (73, 76), (60, 78), (137, 79), (138, 80), (139, 81), (141, 83), (83, 84), (84, 85), (142, 86), (143, 87), (74, 88), (75, 89), (76, 90), (77, 91), (78, 92), (79, 93), (80, 94), (81, 95), (144, 96), (145, 97), (147, 99), (148, 100), (87, 101), (88, 102), (89, 103), (149, 104), (150, 105), (91, 106), (151, 129)]
def seatLib (E : Nat → Ext) : List (Nat × DFun) := [(92, .code d_glyphcutter_glyphcutterlaw12_LeastParts),
 (93, .code d_glyphcutter_glyphcutterref11_Of),
 (8, .code d_glyphcutter_glyphcutterlaw09_Machine),
 (94, .code d_glyphcutter_glyphcutterlaw12_known),
 (95, .code d_glyphcutter_least_Of),
 (96, .code d_glyphcutter_glyphcutterref01_Size),
 (21, .code d_glyphcutter_glyphcutterref08_Sound),
 (97, .code d_glyphcutter_glyphcutterref10_Of),
 (15, .code d_glyphcutter_glyphcutterref09_Start),
 (18, .code d_glyphcutter_glyphcutterref09_Step),
 (98, .code d_glyphcutter_glyphcutterref11_place),
 (99, .code d_glyphcutter_glyphcutterref11_tag),
 (22, .code d_glyphcutter_glyphcutterlaw01_Make),
 (23, .code d_glyphcutter_glyphcutterlaw09_norm),
 (100, .code d_glyphcutter_dfa_Sound),
 (101, .code d_glyphcutter_least_pruned),
 (102, .code d_glyphcutter_least_bare),
 (103, .code d___glyphcutter_least_work__refine),
 (104, .code d___glyphcutter_least_work__joined),
 (105, .code d___glyphcutter_least_work__reach),
 (106, .code d_slices_Clone___glyphcutter_api_Span_glyphcutter_api_Span_),
 (107, .code d___glyphcutter_least_work__kind),
 (33, .code d_glyphcutter_glyphcutterref01_Norm),
 (32, .code d_glyphcutter_glyphcutterref01_Alike),
 (108, .code d_glyphcutter_glyphcutterref10_some),
 (109, .code d_glyphcutter_glyphcutterref01_Inter),
 (110, .code d_glyphcutter_glyphcutterref01_Minus),
 (111, .code d_glyphcutter_glyphcutterref10_sorted),
 (29, .code d_glyphcutter_glyphcutterref09_closed),
 (31, .code d_glyphcutter_glyphcutterref01_Has),
 (112, .code d_glyphcutter_glyphcutterref11_same),
 (17, .code d_glyphcutter_glyphcutterref09_Tags),
 (34, .code d_glyphcutter_glyphcutterlaw01_place),
 (113, .code d_glyphcutter_dfa_apart),
 (114, .code d_glyphcutter_dfa_Sound_1),
 (40, .code d_slices_ContainsFunc___int_int_),
 (115, .code d_glyphcutter_least_live),
 (116, .code d_slices_Clone___int_int_),
 (117, .code d___glyphcutter_least_work__round),
 (118, .code d_strconv_AppendInt),
 (119, .code d_glyphcutter_set_Union),
 (120, .ext (E 120)),
 (45, .code d_glyphcutter_glyphcutterref01_Make),
 (44, .code d_glyphcutter_glyphcutterref01_scalar),
 (37, .code d_slices_Equal___glyphcutter_api_Span_glyphcutter_api_Span_),
 (38, .code d_glyphcutter_set_Norm),
 (122, .code d_glyphcutter_set_Size),
 (52, .code d_slices_IndexFunc___int_int_),
 (123, .code d___glyphcutter_least_work__text),
 (124, .code d_internal_strconv_AppendInt),
 (125, .code d_slices_Concat___glyphcutter_api_Span_glyphcutter_api_Span_),
 (57, .code d_glyphcutter_glyphcutterref01_edges),
 (58, .code d_glyphcutter_glyphcutterref01_lay),
 (46, .code d_slices_AppendSeq___glyphcutter_api_Span_glyphcutter_api_Span_),
 (47, .code d_glyphcutter_set_pieces),
 (48, .ext (E 48)),
 (127, .code d_internal_strconv_AppendUint),
 (128, .ext (E 128)),
 (59, .code d_glyphcutter_set_pieces_1),
 (140, .code d_internal_strconv_formatBits),
 (146, .code d_internal_strconv_isPowerOfTwo),
 (42, .ext (E 42))]
theorem seat_tab : seatOk Tryz.prog seatTab = true := by kernel_rfl
theorem seat_c92 : (Tryz.prog.funcs[3]?).bind (cFunc (numOf seatTab) Tryz.prog) = some d_glyphcutter_glyphcutterlaw12_LeastParts := by kernel_rfl
theorem seat_c93 : (Tryz.prog.funcs[4]?).bind (cFunc (numOf seatTab) Tryz.prog) = some d_glyphcutter_glyphcutterref11_Of := by kernel_rfl
theorem seat_c8 : (Tryz.prog.funcs[5]?).bind (cFunc (numOf seatTab) Tryz.prog) = some d_glyphcutter_glyphcutterlaw09_Machine := by kernel_rfl
theorem seat_c94 : (Tryz.prog.funcs[6]?).bind (cFunc (numOf seatTab) Tryz.prog) = some d_glyphcutter_glyphcutterlaw12_known := by kernel_rfl
theorem seat_c95 : (Tryz.prog.funcs[7]?).bind (cFunc (numOf seatTab) Tryz.prog) = some d_glyphcutter_least_Of := by kernel_rfl
theorem seat_c96 : (Tryz.prog.funcs[8]?).bind (cFunc (numOf seatTab) Tryz.prog) = some d_glyphcutter_glyphcutterref01_Size := by kernel_rfl
theorem seat_c21 : (Tryz.prog.funcs[9]?).bind (cFunc (numOf seatTab) Tryz.prog) = some d_glyphcutter_glyphcutterref08_Sound := by kernel_rfl
theorem seat_c97 : (Tryz.prog.funcs[10]?).bind (cFunc (numOf seatTab) Tryz.prog) = some d_glyphcutter_glyphcutterref10_Of := by kernel_rfl
theorem seat_c15 : (Tryz.prog.funcs[11]?).bind (cFunc (numOf seatTab) Tryz.prog) = some d_glyphcutter_glyphcutterref09_Start := by kernel_rfl
theorem seat_c18 : (Tryz.prog.funcs[12]?).bind (cFunc (numOf seatTab) Tryz.prog) = some d_glyphcutter_glyphcutterref09_Step := by kernel_rfl
theorem seat_c98 : (Tryz.prog.funcs[13]?).bind (cFunc (numOf seatTab) Tryz.prog) = some d_glyphcutter_glyphcutterref11_place := by kernel_rfl
theorem seat_c99 : (Tryz.prog.funcs[14]?).bind (cFunc (numOf seatTab) Tryz.prog) = some d_glyphcutter_glyphcutterref11_tag := by kernel_rfl
theorem seat_c22 : (Tryz.prog.funcs[15]?).bind (cFunc (numOf seatTab) Tryz.prog) = some d_glyphcutter_glyphcutterlaw01_Make := by kernel_rfl
theorem seat_c23 : (Tryz.prog.funcs[16]?).bind (cFunc (numOf seatTab) Tryz.prog) = some d_glyphcutter_glyphcutterlaw09_norm := by kernel_rfl
theorem seat_c100 : (Tryz.prog.funcs[17]?).bind (cFunc (numOf seatTab) Tryz.prog) = some d_glyphcutter_dfa_Sound := by kernel_rfl
theorem seat_c101 : (Tryz.prog.funcs[18]?).bind (cFunc (numOf seatTab) Tryz.prog) = some d_glyphcutter_least_pruned := by kernel_rfl
theorem seat_c102 : (Tryz.prog.funcs[19]?).bind (cFunc (numOf seatTab) Tryz.prog) = some d_glyphcutter_least_bare := by kernel_rfl
theorem seat_c103 : (Tryz.prog.funcs[20]?).bind (cFunc (numOf seatTab) Tryz.prog) = some d___glyphcutter_least_work__refine := by kernel_rfl
theorem seat_c104 : (Tryz.prog.funcs[21]?).bind (cFunc (numOf seatTab) Tryz.prog) = some d___glyphcutter_least_work__joined := by kernel_rfl
theorem seat_c105 : (Tryz.prog.funcs[22]?).bind (cFunc (numOf seatTab) Tryz.prog) = some d___glyphcutter_least_work__reach := by kernel_rfl
theorem seat_c106 : (Tryz.prog.funcs[23]?).bind (cFunc (numOf seatTab) Tryz.prog) = some d_slices_Clone___glyphcutter_api_Span_glyphcutter_api_Span_ := by kernel_rfl
theorem seat_c107 : (Tryz.prog.funcs[24]?).bind (cFunc (numOf seatTab) Tryz.prog) = some d___glyphcutter_least_work__kind := by kernel_rfl
theorem seat_c33 : (Tryz.prog.funcs[25]?).bind (cFunc (numOf seatTab) Tryz.prog) = some d_glyphcutter_glyphcutterref01_Norm := by kernel_rfl
theorem seat_c32 : (Tryz.prog.funcs[26]?).bind (cFunc (numOf seatTab) Tryz.prog) = some d_glyphcutter_glyphcutterref01_Alike := by kernel_rfl
theorem seat_c108 : (Tryz.prog.funcs[27]?).bind (cFunc (numOf seatTab) Tryz.prog) = some d_glyphcutter_glyphcutterref10_some := by kernel_rfl
theorem seat_c109 : (Tryz.prog.funcs[28]?).bind (cFunc (numOf seatTab) Tryz.prog) = some d_glyphcutter_glyphcutterref01_Inter := by kernel_rfl
theorem seat_c110 : (Tryz.prog.funcs[29]?).bind (cFunc (numOf seatTab) Tryz.prog) = some d_glyphcutter_glyphcutterref01_Minus := by kernel_rfl
theorem seat_c111 : (Tryz.prog.funcs[30]?).bind (cFunc (numOf seatTab) Tryz.prog) = some d_glyphcutter_glyphcutterref10_sorted := by kernel_rfl
theorem seat_c29 : (Tryz.prog.funcs[31]?).bind (cFunc (numOf seatTab) Tryz.prog) = some d_glyphcutter_glyphcutterref09_closed := by kernel_rfl
theorem seat_c31 : (Tryz.prog.funcs[32]?).bind (cFunc (numOf seatTab) Tryz.prog) = some d_glyphcutter_glyphcutterref01_Has := by kernel_rfl
theorem seat_c112 : (Tryz.prog.funcs[33]?).bind (cFunc (numOf seatTab) Tryz.prog) = some d_glyphcutter_glyphcutterref11_same := by kernel_rfl
theorem seat_c17 : (Tryz.prog.funcs[34]?).bind (cFunc (numOf seatTab) Tryz.prog) = some d_glyphcutter_glyphcutterref09_Tags := by kernel_rfl
theorem seat_c34 : (Tryz.prog.funcs[35]?).bind (cFunc (numOf seatTab) Tryz.prog) = some d_glyphcutter_glyphcutterlaw01_place := by kernel_rfl
theorem seat_c113 : (Tryz.prog.funcs[36]?).bind (cFunc (numOf seatTab) Tryz.prog) = some d_glyphcutter_dfa_apart := by kernel_rfl
theorem seat_c114 : (Tryz.prog.funcs[37]?).bind (cFunc (numOf seatTab) Tryz.prog) = some d_glyphcutter_dfa_Sound_1 := by kernel_rfl
theorem seat_c40 : (Tryz.prog.funcs[38]?).bind (cFunc (numOf seatTab) Tryz.prog) = some d_slices_ContainsFunc___int_int_ := by kernel_rfl
theorem seat_c115 : (Tryz.prog.funcs[39]?).bind (cFunc (numOf seatTab) Tryz.prog) = some d_glyphcutter_least_live := by kernel_rfl
theorem seat_c116 : (Tryz.prog.funcs[40]?).bind (cFunc (numOf seatTab) Tryz.prog) = some d_slices_Clone___int_int_ := by kernel_rfl
theorem seat_c117 : (Tryz.prog.funcs[41]?).bind (cFunc (numOf seatTab) Tryz.prog) = some d___glyphcutter_least_work__round := by kernel_rfl
theorem seat_c118 : (Tryz.prog.funcs[42]?).bind (cFunc (numOf seatTab) Tryz.prog) = some d_strconv_AppendInt := by kernel_rfl
theorem seat_c119 : (Tryz.prog.funcs[43]?).bind (cFunc (numOf seatTab) Tryz.prog) = some d_glyphcutter_set_Union := by kernel_rfl
theorem seat_c45 : (Tryz.prog.funcs[47]?).bind (cFunc (numOf seatTab) Tryz.prog) = some d_glyphcutter_glyphcutterref01_Make := by kernel_rfl
theorem seat_c44 : (Tryz.prog.funcs[48]?).bind (cFunc (numOf seatTab) Tryz.prog) = some d_glyphcutter_glyphcutterref01_scalar := by kernel_rfl
theorem seat_c37 : (Tryz.prog.funcs[49]?).bind (cFunc (numOf seatTab) Tryz.prog) = some d_slices_Equal___glyphcutter_api_Span_glyphcutter_api_Span_ := by kernel_rfl
theorem seat_c38 : (Tryz.prog.funcs[50]?).bind (cFunc (numOf seatTab) Tryz.prog) = some d_glyphcutter_set_Norm := by kernel_rfl
theorem seat_c122 : (Tryz.prog.funcs[51]?).bind (cFunc (numOf seatTab) Tryz.prog) = some d_glyphcutter_set_Size := by kernel_rfl
theorem seat_c52 : (Tryz.prog.funcs[52]?).bind (cFunc (numOf seatTab) Tryz.prog) = some d_slices_IndexFunc___int_int_ := by kernel_rfl
theorem seat_c123 : (Tryz.prog.funcs[53]?).bind (cFunc (numOf seatTab) Tryz.prog) = some d___glyphcutter_least_work__text := by kernel_rfl
theorem seat_c124 : (Tryz.prog.funcs[54]?).bind (cFunc (numOf seatTab) Tryz.prog) = some d_internal_strconv_AppendInt := by kernel_rfl
theorem seat_c125 : (Tryz.prog.funcs[55]?).bind (cFunc (numOf seatTab) Tryz.prog) = some d_slices_Concat___glyphcutter_api_Span_glyphcutter_api_Span_ := by kernel_rfl
theorem seat_c57 : (Tryz.prog.funcs[59]?).bind (cFunc (numOf seatTab) Tryz.prog) = some d_glyphcutter_glyphcutterref01_edges := by kernel_rfl
theorem seat_c58 : (Tryz.prog.funcs[60]?).bind (cFunc (numOf seatTab) Tryz.prog) = some d_glyphcutter_glyphcutterref01_lay := by kernel_rfl
theorem seat_c46 : (Tryz.prog.funcs[61]?).bind (cFunc (numOf seatTab) Tryz.prog) = some d_slices_AppendSeq___glyphcutter_api_Span_glyphcutter_api_Span_ := by kernel_rfl
theorem seat_c47 : (Tryz.prog.funcs[62]?).bind (cFunc (numOf seatTab) Tryz.prog) = some d_glyphcutter_set_pieces := by kernel_rfl
theorem seat_c127 : (Tryz.prog.funcs[65]?).bind (cFunc (numOf seatTab) Tryz.prog) = some d_internal_strconv_AppendUint := by kernel_rfl
theorem seat_c59 : (Tryz.prog.funcs[77]?).bind (cFunc (numOf seatTab) Tryz.prog) = some d_glyphcutter_set_pieces_1 := by kernel_rfl
theorem seat_c140 : (Tryz.prog.funcs[82]?).bind (cFunc (numOf seatTab) Tryz.prog) = some d_internal_strconv_formatBits := by kernel_rfl
theorem seat_c146 : (Tryz.prog.funcs[98]?).bind (cFunc (numOf seatTab) Tryz.prog) = some d_internal_strconv_isPowerOfTwo := by kernel_rfl
theorem seat_codes (E : Nat → Ext) : codesOk Tryz.prog seatTab (seatLib E) :=
 ⟨.inr ⟨3, by kernel_rfl, seat_c92⟩,
 .inr ⟨4, by kernel_rfl, seat_c93⟩,
 .inr ⟨5, by kernel_rfl, seat_c8⟩,
 .inr ⟨6, by kernel_rfl, seat_c94⟩,
 .inr ⟨7, by kernel_rfl, seat_c95⟩,
 .inr ⟨8, by kernel_rfl, seat_c96⟩,
 .inr ⟨9, by kernel_rfl, seat_c21⟩,
 .inr ⟨10, by kernel_rfl, seat_c97⟩,
 .inr ⟨11, by kernel_rfl, seat_c15⟩,
 .inr ⟨12, by kernel_rfl, seat_c18⟩,
 .inr ⟨13, by kernel_rfl, seat_c98⟩,
 .inr ⟨14, by kernel_rfl, seat_c99⟩,
 .inr ⟨15, by kernel_rfl, seat_c22⟩,
 .inr ⟨16, by kernel_rfl, seat_c23⟩,
 .inr ⟨17, by kernel_rfl, seat_c100⟩,
 .inr ⟨18, by kernel_rfl, seat_c101⟩,
 .inr ⟨19, by kernel_rfl, seat_c102⟩,
 .inr ⟨20, by kernel_rfl, seat_c103⟩,
 .inr ⟨21, by kernel_rfl, seat_c104⟩,
 .inr ⟨22, by kernel_rfl, seat_c105⟩,
 .inr ⟨23, by kernel_rfl, seat_c106⟩,
 .inr ⟨24, by kernel_rfl, seat_c107⟩,
 .inr ⟨25, by kernel_rfl, seat_c33⟩,
 .inr ⟨26, by kernel_rfl, seat_c32⟩,
 .inr ⟨27, by kernel_rfl, seat_c108⟩,
 .inr ⟨28, by kernel_rfl, seat_c109⟩,
 .inr ⟨29, by kernel_rfl, seat_c110⟩,
 .inr ⟨30, by kernel_rfl, seat_c111⟩,
 .inr ⟨31, by kernel_rfl, seat_c29⟩,
 .inr ⟨32, by kernel_rfl, seat_c31⟩,
 .inr ⟨33, by kernel_rfl, seat_c112⟩,
 .inr ⟨34, by kernel_rfl, seat_c17⟩,
 .inr ⟨35, by kernel_rfl, seat_c34⟩,
 .inr ⟨36, by kernel_rfl, seat_c113⟩,
 .inr ⟨37, by kernel_rfl, seat_c114⟩,
 .inr ⟨38, by kernel_rfl, seat_c40⟩,
 .inr ⟨39, by kernel_rfl, seat_c115⟩,
 .inr ⟨40, by kernel_rfl, seat_c116⟩,
 .inr ⟨41, by kernel_rfl, seat_c117⟩,
 .inr ⟨42, by kernel_rfl, seat_c118⟩,
 .inr ⟨43, by kernel_rfl, seat_c119⟩,
 .inr ⟨47, by kernel_rfl, seat_c45⟩,
 .inr ⟨48, by kernel_rfl, seat_c44⟩,
 .inr ⟨49, by kernel_rfl, seat_c37⟩,
 .inr ⟨50, by kernel_rfl, seat_c38⟩,
 .inr ⟨51, by kernel_rfl, seat_c122⟩,
 .inr ⟨52, by kernel_rfl, seat_c52⟩,
 .inr ⟨53, by kernel_rfl, seat_c123⟩,
 .inr ⟨54, by kernel_rfl, seat_c124⟩,
 .inr ⟨55, by kernel_rfl, seat_c125⟩,
 .inr ⟨59, by kernel_rfl, seat_c57⟩,
 .inr ⟨60, by kernel_rfl, seat_c58⟩,
 .inr ⟨61, by kernel_rfl, seat_c46⟩,
 .inr ⟨62, by kernel_rfl, seat_c47⟩,
 .inr ⟨65, by kernel_rfl, seat_c127⟩,
 .inr ⟨77, by kernel_rfl, seat_c59⟩,
 .inr ⟨82, by kernel_rfl, seat_c140⟩,
 .inr ⟨98, by kernel_rfl, seat_c146⟩, trivial⟩
end Go.Proofs.YtpcbpgepjfenhaaGreatDoor
